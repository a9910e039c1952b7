/- Which proofs may be: the first error of all that is asked. No program in sight. -/
import Derived.Test.YtncpaekiidpchaaGreatMk5
import Derived.Test.YtncpaekiidpchaaGreatSpUtf
import Derived.Test.YtncpaekiidpchaaGreatOp1
import Derived.Test.YtncpaekiidpchaaGreatOpC
import Derived.Test.YtncpaekiidpchaaGreatCodec1
set_option linter.all false
namespace Go.AW
def zcc : List Int → Int
 | [] => 0
 | e :: r => if e ≠ 0 then e else zcc r
theorem zfO (a b : List Int) : zcc (a ++ b) = if zcc a ≠ 0 then zcc a else zcc b := by
 induction a with
 | nil => simp [zcc]
 | cons e r ih =>
  simp only [List.cons_append,zcc,ih]
  by_cases h : e = 0
  ·simp [h]
  ·simp [h]
theorem zrN {a b : List Int} (h : zcc a = 0) : zcc (a ++ b) = zcc b := by rw [zfO,if_neg (by simpa using h)]
theorem zlp {a b : List Int} (h : zcc a ≠ 0) : zcc (a ++ b) = zcc a := by rw [zfO,if_pos h]
def zhf (e x : Int) : Int := if e ≠ 0 then e else x
theorem thn_fst (e : Int) (l : List Int) : zhf e (zcc l) = zcc (e :: l) := rfl
def inE (n lo hi : Int) : Int := if n < lo ∨ n > hi then 100 else 0
def zhZ (n : Int) : Int := inE n 0 9007199254740992
def posE (n : Int) : Int := inE n 1 9007199254740992
def zta (s : List UInt8) : Int := if zeY s = true then 0 else 61
def zeV (l : List zS) : List Int := inE l.length 0 13 :: l.map fun s => zao s.key s.dig
def zdl (c : zfk) : Int := if ((c.seq = 0) ≠ (c.dig = 0)) ∨ (c.seq = 0 ∧ 0 < c.signs.length) then 100 else 0
def zfi (c : zfk) : List Int := zhZ c.seq :: zhZ c.dig :: zdl c :: zeV c.signs
def zgx (h : zeb) : List Int := [posE h.seq,zhZ h.prev,zhZ h.batch,zhZ h.root,zhZ h.state]
structure zaW where
 topic : List UInt8
 offset : Int
 rec_ : List UInt8
 headers : List zeb
 index : Int
 count : Int
 path : List Int
 cert : zfk
abbrev proofD (p : zaW) : List D := [.str p.topic, .int .i64 p.offset, .slice (bcs p.rec_), .slice (zcR p.headers), .int .i64 p.index, .int .i64 p.count, .slice (zaX p.path), .int .i64 p.cert.seq, .int .i64 p.cert.dig, .slice (zax p.cert.signs)]
abbrev zeO (p : zaW) : AV := .agg [.d (.str p.topic), .d (.int .i64 p.offset), .d (.slice (bcs p.rec_)), .d (.slice (zcR p.headers)), .d (.int .i64 p.index), .d (.int .i64 p.count), .d (.slice (zaX p.path)), .d (.int .i64 p.cert.seq), .d (.int .i64 p.cert.dig), .d (.slice (zax p.cert.signs))]
abbrev certA (c : zfk) : AV := .agg [.d (.int .i64 c.seq), .d (.int .i64 c.dig), .d (.slice (zax c.signs))]
def zex (p : zaW) : List Int := [zta p.topic,zhZ p.offset,inE p.rec_.length 0 64,inE p.headers.length 0 64]
def zbv (p : zaW) : List Int := [zhZ p.index,inE p.count 0 16]
def zdK (p : zaW) : List Int := [inE p.index 0 (p.count - 1),inE p.path.length 0 8]
def znJ (p : zaW) : List Int := zex p ++ ((p.headers.map zgx).flatten ++ (zbv p ++ (zdK p ++ (p.path.map zhZ ++ zfi p.cert))))
def zcd (p : zaW) : Int := zcc (znJ p)
theorem inE_0 {n lo hi : Int} (h : inE n lo hi = 0) : lo ≤ n ∧ n ≤ hi := by
 unfold inE at h
 split at h
 ·cases h
 ·omega
theorem numE_0 {n : Int} (h : zhZ n = 0) : 0 ≤ n ∧ n ≤ 9007199254740992 := inE_0 h
end Go.AW

/- Contracts: what is asked of a proof, the program's. -/
set_option maxRecDepth 100000
namespace Go.Proofs.YtncpaekiidpchaaGreat
open Go.AW
abbrev zmu (e : Int) : zh := .box [.d (.int .i64 e)]
theorem zhb (n : Nat) (e : Int) : ztl n (zmu e) := by
 intro c hc
 simp only [List.mem_cons,List.not_mem_nil,or_false] at hc
 subst hc; exact .d _
theorem c_says {σ : List zh} {id : Nat} {e x : Int} (hσ : σ[id]? = some (zmu e)) {K : KT} (hK : K (.tup []) (σ.set id (zmu (zhf e x)))) : zy Tryz.prog zaL [.box id 0, .d (.int .i64 x)] σ K := by
 refine zi zgC.is rfl fun hl _ => zgC.goes ?_
 simp only [zgM,iN,bT,bF,eN]
 cases h : (e == 0)
 ·rw [zhf,if_pos (by simpa using h),zbC hσ] at hK
  (repeat' first | refine zcY (zbz hσ h) ?_ | with_reducible first | exact ⟨⟩ | refine zg ?_ | fail)
  (first | refine zX hl ?_ | refine zW hl ?_)
  exact hK
 ·rw [zhf,if_neg (by simpa using h)] at hK
  (repeat' first | refine zcY (zbz hσ h) ?_ | with_reducible first | exact ⟨⟩ | refine zg ?_ | fail)
  exact zeM (by simp [zcf,dmT,zbu]) hl (zhb _ _) hK
theorem thn_0 (e : Int) : zhf e 0 = e := by
 unfold zhf; split
 ·rfl
 ·rename_i h; simp at h; exact h.symm
theorem zvN {σ : List zh} {id : Nat} {e n lo hi : Int} (hσ : σ[id]? = some (zmu e)) {K : KT} (hK : K (.tup []) (σ.set id (zmu (zhf e (inE n lo hi))))) :
  zy Tryz.prog zbV [.box id 0, .d (.int .i64 n), .d (.int .i64 lo), .d (.int .i64 hi)] σ K := by
 refine zi zir.is rfl fun hl _ => zir.goes ?_
 simp only [ziB,iN,bT,bF,eN]
 have bad : (n < lo ∨ n > hi) → zy Tryz.prog zaL [.box id 0, .d (.int .i64 100)] σ fun _ s => AW.Ends σ.length K (some []) s := fun h => by
  rw [inE,if_pos h] at hK
  refine c_says hσ ?_
  exact zeM (by simp [zcf,dmT,zbu]) hl (zhb _ _) hK
 cases h1 : decide (n < lo)
 ·cases h2 : decide (n > hi)
  ·rw [inE,if_neg (by simp at h1 h2; omega),thn_0,zbC hσ] at hK
   (repeat' first | refine zcY (zbz h1 h2) ?_ | with_reducible first | exact ⟨⟩ | refine zg ?_ | fail)
   (first | refine zX hl ?_ | refine zW hl ?_)
   exact hK
  ·(repeat' first | refine zcY (zbz h1 h2) ?_ | with_reducible first | exact ⟨⟩ | refine zg ?_ | fail)
   exact bad (.inr (by simpa using h2))
 ·(repeat' first | refine zcY h1 ?_ | with_reducible first | exact ⟨⟩ | refine zg ?_ | fail)
  exact bad (.inl (by simpa using h1))
theorem zmr {σ : List zh} {id : Nat} {e n : Int} (hσ : σ[id]? = some (zmu e)) {K : KT} (hK : K (.tup []) (σ.set id (zmu (zhf e (zhZ n))))) :
  zy Tryz.prog zaQ [.box id 0, .d (.int .i64 n)] σ K := by
 refine zi zhG.is rfl fun hl _ => zhG.goes ?_
 simp only [zhU,iN,bT,bF,eN]
 (repeat' first | refine zib ?_ | with_reducible first | exact ⟨⟩ | refine zg ?_ | fail)
 refine zvN hσ ?_
 exact zeM (by simp [zcf,dmT,zbu]) hl (zhb _ _) hK
theorem c_askPos {σ : List zh} {id : Nat} {e n : Int} (hσ : σ[id]? = some (zmu e)) {K : KT} (hK : K (.tup []) (σ.set id (zmu (zhf e (posE n))))) :
  zy Tryz.prog zeK [.box id 0, .d (.int .i64 n)] σ K := by
 refine zi zhF.is rfl fun hl _ => zhF.goes ?_
 simp only [zhT,iN,bT,bF,eN]
 (repeat' first | refine zib ?_ | with_reducible first | exact ⟨⟩ | refine zg ?_ | fail)
 refine zvN hσ ?_
 exact zeM (by simp [zcf,dmT,zbu]) hl (zhb _ _) hK
theorem zlI {σ : List zh} {id : Nat} {e n hi : Int} (hσ : σ[id]? = some (zmu e)) {K : KT} (hK : K (.tup []) (σ.set id (zmu (zhf e (inE n 0 hi))))) :
  zy Tryz.prog zbk [.box id 0, .d (.int .i64 n), .d (.int .i64 hi)] σ K := by
 refine zi zgE.is rfl fun hl _ => zgE.goes ?_
 simp only [zgO,iN,bT,bF,eN]
 (repeat' first | refine zib ?_ | with_reducible first | exact ⟨⟩ | refine zg ?_ | fail)
 refine zvN hσ ?_
 exact zeM (by simp [zcf,dmT,zbu]) hl (zhb _ _) hK
theorem c_askName {σ : List zh} {id : Nat} {e : Int} {x : List UInt8} (hσ : σ[id]? = some (zmu e)) (hx : x.length ≤ 1073741824) {K : KT} (hK : K (.tup []) (σ.set id (zmu (zhf e (zta x))))) :
  zy Tryz.prog zer [.box id 0, .d (.str x)] σ K := by
 refine zi zgD.is rfl fun hl _ => zgD.goes ?_
 simp only [zgN,iN,bT,bF,eN]
 (repeat' first | refine zib ?_ | with_reducible first | exact ⟨⟩ | refine zg ?_ | fail)
 refine c_Name hx ?_
 cases h : zeY x
 ·rw [zta,if_neg (by simp [h])] at hK
  (repeat' first | refine zib ?_ | with_reducible first | exact ⟨⟩ | refine zg ?_ | fail)
  refine c_says hσ ?_
  exact zeM (by simp [zcf,dmT,zbu]) hl (zhb _ _) hK
 ·rw [zta,if_pos h,thn_0,zbC hσ] at hK
  (repeat' first | refine zib ?_ | with_reducible first | exact ⟨⟩ | refine zg ?_ | fail)
  (first | refine zX hl ?_ | refine zW hl ?_)
  exact hK
theorem fst_snoc (e : Int) (l : List Int) (x : Int) : zhf (zcc (e :: l)) x = zcc (e :: (l ++ [x])) := by
 rw [show e :: (l ++ [x]) = (e :: l) ++ [x] from rfl,zfO]
 unfold zhf
 split
 ·rfl
 ·simp [zcc]
theorem zha {α β : Type} {f : α → β} {l : List α} {k : Nat} {x : α} (h : l[k]? = some x) : (l.take (k + 1)).map f = (l.take k).map f ++ [f x] := by
 rw [List.take_add_one,h]; simp
theorem wkc (k : Nat) (h : k ≤ 1073741824) : IntKind.i64.wrap ((k : Int) + 1) = ((k + 1 : Nat) : Int) := by rw [zP (by omega) (by omega)]; rfl
theorem fst1 (e x : Int) : zcc [e,x] = zhf e x := by
 unfold zhf
 simp only [zcc]
 split
 ·rfl
 ·split
  ·rfl
  ·rename_i h; simp at h; exact h.symm
theorem bft : ((false : Bool) == true) = false := rfl
theorem btf : ((true : Bool) == false) = false := rfl
theorem gq34 {A P Q : Prop} (a : A) (h : Q) (e : A → P = Q := by intro a; simp -dsimp only [↓zen, ↓zaw, ↓zba, ↓zeo, ↓zej, ↓zeh, ↓zek, ↓zei, ↓zbf, ↓zbb, ↓zbg, ↓zbc, ↓zel, ↓zaZ, ↓zbh, ↓zbd, ↓zbi, ↓zbe, ↓zeg, ↓zem, ↓zaY, ↓zbj, ↓zee, ↓zed, ↓zef,iN,bT,bF,eN, ↓zcI, ↓unC, ↓zV, ↓zJ, ↓zK, ↓zN, ↓zaa, ↓zas, ↓zbH, ↓zah, ↓zaV, ↓zQ, ↓zp, ↓zo, ↓zbr, ↓zk, ↓zag, ↓zG, ↓zaB, ↓zaF, ↓ze, ↓zE, ↓zr, ↓zw, ↓zam, ↓zcs, ↓zcM, ↓zak, ↓zat, ↓zaE, ↓zaJ, ↓zaP, ↓zu, ↓zai, ↓zL, ↓zA, ↓zab,zcT,zaU,zaT,unA,zcW,bnd,zds,zae,zR,zdv,dm,dm1,zC,zaj,zdH,zdG,zM,Q0,Q1,Q2,Q3,Q4,Q5,zT,zq,zx,zO,zI,Q6,Q7,Q8,Q9,Q10,Q11,Q12,Q13,Q14,Nat.reduceAdd,Q15,Int.reduceToNat,Q16,Q17,Q18,Q19,Q20,reduceIte,Q21,Q22,zF,rep,zY,zdD,toD,zad,Q23,Q24,Q25,Q26,Q27,Q28,Nat.reduceLeDiff,Q29,Nat.reduceSub,Q30,Q31,Q32,sc,Q33,Q34,Q35,Q36,Q37,Q26,Q38,Q39,zfZ,zfW,zfT,zga,zbR,zfX,zfU,zfY,zfV,zbQ,zbS,zgb,zgc,Bool.not_true,Bool.not_false,List.length_map,zgn,a]; rfl) : P := (e a).mpr h
theorem c_askSigns {σ : List zh} {id : Nat} {e : Int} {l : List zS} (hσ : σ[id]? = some (zmu e)) (hl0 : l.length ≤ 1073741824) {K : KT} (hK : K (.tup []) (σ.set id (zmu (zhf e (zcc (zeV l)))))) :
  zy Tryz.prog zbw [.box id 0, .d (.slice (zax l))] σ K := by
 refine zi zge.is rfl fun hl _ => zge.goes ?_
 have hlen : (zax l).length = l.length := List.length_map ..
 have hid := zH hσ
 rw [thn_fst,zeV] at hK
 simp only [zgj,iN,bT,bF,eN]
 (repeat' first | refine zcY hlen ?_ | with_reducible first | exact ⟨⟩ | refine zg ?_ | fail)
 refine zlI hσ ?_
 (repeat' first | refine zcY hlen ?_ | with_reducible first | exact ⟨⟩ | refine zg ?_ | fail)
 refine zB l.length (fun k vs s => vs = [.d (.int .i64 k)] ∧ ∃ T,s = σ.set id (zmu (zcc (e :: (inE l.length 0 13 :: (l.take k).map fun s => zao s.key s.dig)))) ++ T) ⟨rfl, [],by rw [List.take_zero,List.map_nil,fst1,List.append_nil]⟩ ?_
 rintro k vs s hk ⟨rfl,T,rfl⟩
 by_cases hlt : k < l.length
 ·have hd : decide ((k : Int) < (l.length : Int)) = true := by simp; omega
  have hx : l[k]? = some l[k] := by simp [hlt]
  have hgx := zU (f := zgn) hx
  obtain ⟨x,hxe⟩ : ∃ x,l[k] = x := ⟨_,rfl⟩
  rw [hxe] at hx hgx
  have hmn := zha (f := fun s : zS => zao s.key s.dig) hx
  have fs := fst_snoc e (inE l.length 0 13 :: (l.take k).map fun s => zao s.key s.dig) (zao x.key x.dig)
  simp only [List.cons_append] at fs
  rw [← hmn] at fs
  obtain ⟨E,hE⟩ : ∃ E,zcc (e :: (inE l.length 0 13 :: (l.take k).map fun s => zao s.key s.dig)) = E := ⟨_,rfl⟩
  rw [hE] at fs ⊢
  have hS : ∀ τ,(σ.set id (zmu E) ++ τ)[id]? = some (zmu E) := fun τ => zf (zbm hσ)
  (repeat' first | refine gq34 (zbz hd (zbz hgx hlen)) ?_ | with_reducible first | exact ⟨⟩ | refine zg ?_ | fail)
  refine zvC ?_
  (repeat' first | refine zib ?_ | with_reducible first | exact ⟨⟩ | refine zg ?_ | fail)
  refine c_says (e := E) (hS _) ?_
  rw [zbD (zbm hσ),List.set_set]
  (repeat' first | refine zcY (wkc k (by omega)) ?_ | with_reducible first | exact ⟨⟩ | refine zg ?_ | fail)
  exact zap.next hlt ⟨rfl,_,by rw [fs]⟩
 ·have hd : decide ((k : Int) < (l.length : Int)) = false := by simp; omega
  rw [List.take_of_length_le (by omega)]
  (repeat' first | refine zcY hd ?_ | with_reducible first | exact ⟨⟩ | refine zg ?_ | fail)
  exact zji (by simp [zcf,dmT,zbu]) hl (zhb _ _) hK
theorem gq35 {A P Q : Prop} (a : A) (h : Q) (e : A → P = Q := by intro a; simp -dsimp only [↓zen, ↓zaw, ↓zba, ↓zeo, ↓zej, ↓zeh, ↓zek, ↓zei, ↓zbf, ↓zbb, ↓zbg, ↓zbc, ↓zel, ↓zaZ, ↓zbh, ↓zbd, ↓zbi, ↓zbe, ↓zeg, ↓zem, ↓zaY, ↓zbj, ↓zee, ↓zed, ↓zef,iN,bT,bF,eN, ↓zcI, ↓unC, ↓zV, ↓zJ, ↓zK, ↓zN, ↓zaa, ↓zas, ↓zbH, ↓zah, ↓zaV, ↓zQ, ↓zp, ↓zo, ↓zbr, ↓zk, ↓zag, ↓zG, ↓zaB, ↓zaF, ↓ze, ↓zE, ↓zr, ↓zw, ↓zam, ↓zcs, ↓zcM, ↓zak, ↓zat, ↓zaE, ↓zaJ, ↓zaP, ↓zu, ↓zai, ↓zL, ↓zA, ↓zab,zcT,zaU,zaT,unA,zcW,bnd,zds,zae,zR,zdv,dm,dm1,zC,zaj,zdH,zdG,zM,Q0,Q1,Q2,Q3,Q4,Q5,zT,zq,zx,zO,zI,Q6,Q7,Q8,Q9,Q10,Q11,Q12,Q13,Q14,Nat.reduceAdd,Q15,Int.reduceToNat,Q16,Q17,Q18,Q19,Q20,reduceIte,Q21,Q22,zF,rep,zY,zdD,toD,zad,Q23,Q24,Q25,Q26,Q27,Q28,Nat.reduceLeDiff,Q29,Nat.reduceSub,Q30,Q31,Q32,sc,Q33,Q34,Q35,Q36,Q37,Q26,Q38,Q39,zfZ,zfW,zfT,zga,zbR,zfX,zfU,zfY,zfV,zbQ,zbS,zgb,zgc,Bool.not_true,Bool.not_false,List.length_map,beq_self_eq_true,bft,btf,a]; rfl) : P := (e a).mpr h
theorem gq36 {A P Q : Prop} (a : A) (h : Q) (e : A → P = Q := by intro a; simp -dsimp only [↓zen, ↓zaw, ↓zba, ↓zeo, ↓zej, ↓zeh, ↓zek, ↓zei, ↓zbf, ↓zbb, ↓zbg, ↓zbc, ↓zel, ↓zaZ, ↓zbh, ↓zbd, ↓zbi, ↓zbe, ↓zeg, ↓zem, ↓zaY, ↓zbj, ↓zee, ↓zed, ↓zef,iN,bT,bF,eN, ↓zcI, ↓unC, ↓zV, ↓zJ, ↓zK, ↓zN, ↓zaa, ↓zas, ↓zbH, ↓zah, ↓zaV, ↓zQ, ↓zp, ↓zo, ↓zbr, ↓zk, ↓zag, ↓zG, ↓zaB, ↓zaF, ↓ze, ↓zE, ↓zr, ↓zw, ↓zam, ↓zcs, ↓zcM, ↓zak, ↓zat, ↓zaE, ↓zaJ, ↓zaP, ↓zu, ↓zai, ↓zL, ↓zA, ↓zab,zcT,zaU,zaT,unA,zcW,bnd,zds,zae,zR,zdv,dm,dm1,zC,zaj,zdH,zdG,zM,Q0,Q1,Q2,Q3,Q4,Q5,zT,zq,zx,zO,zI,Q6,Q7,Q8,Q9,Q10,Q11,Q12,Q13,Q14,Nat.reduceAdd,Q15,Int.reduceToNat,Q16,Q17,Q18,Q19,Q20,reduceIte,Q21,Q22,zF,rep,zY,zdD,toD,zad,Q23,Q24,Q25,Q26,Q27,Q28,Nat.reduceLeDiff,Q29,Nat.reduceSub,Q30,Q31,Q32,sc,Q33,Q34,Q35,Q36,Q37,Q26,Q38,Q39,zfZ,zfW,zfT,zga,zbR,zfX,zfU,zfY,zfV,zbQ,zbS,zgb,zgc,Bool.not_true,Bool.not_false,List.length_map,bft,btf,a]; rfl) : P := (e a).mpr h
theorem c_askCert {σ : List zh} {id : Nat} {e : Int} {c : zfk} (hσ : σ[id]? = some (zmu e)) (hl0 : c.signs.length ≤ 1073741824) {K : KT} (hK : K (.tup []) (σ.set id (zmu (zhf e (zcc (zfi c)))))) :
  zy Tryz.prog zes [.box id 0,certA c] σ K := by
 refine zi zgF.is rfl fun hl _ => zgF.goes ?_
 have hlen : (zax c.signs).length = c.signs.length := List.length_map ..
 simp only [zgP,iN,bT,bF,eN,certA]
 have hB : ∀ X,(σ.set id X ++ [zh.box [AV.d (D.int .i64 c.seq),AV.d (D.int .i64 c.dig),AV.d (D.slice (zax c.signs))]])[σ.length]? = some (zh.box [AV.d (D.int .i64 c.seq),AV.d (D.int .i64 c.dig),AV.d (D.slice (zax c.signs))]) := fun X => by
  rw [List.getElem?_append_right (by simp)]; simp
 have hS : ∀ E τ,(σ.set id (zmu E) ++ τ)[id]? = some (zmu E) := fun E τ => zf (zbm hσ)
 have hP : ∀ E Y τ,(σ.set id (zmu E) ++ τ).set id Y = σ.set id Y ++ τ := fun E Y τ => by rw [zbD (zbm hσ),List.set_set]
 have e4 : zhf e (zcc (zfi c)) = zhf (zhf (zhf (zhf e (zhZ c.seq)) (zhZ c.dig)) (zdl c)) (zcc (zeV c.signs)) := by
  simp only [zfi,zcc,zhf]
  by_cases h0 : e = 0
  ·by_cases h1 : zhZ c.seq = 0
   ·by_cases h2 : zhZ c.dig = 0
    ·by_cases h3 : zdl c = 0
     ·simp [h0,h1,h2,h3]
     ·simp [h0,h1,h2,h3]
    ·simp [h0,h1,h2]
   ·simp [h0,h1]
  ·simp [h0]
 rw [e4] at hK
 (repeat' first | refine zib ?_ | with_reducible first | exact ⟨⟩ | refine zg ?_ | fail)
 refine zmr (zf hσ) ?_
 rw [zbD hσ]
 (repeat' first | refine zcY hB ?_ | with_reducible first | exact ⟨⟩ | refine zg ?_ | fail)
 refine zmr (hS _ _) ?_
 rw [hP]
 obtain ⟨E,hE⟩ : ∃ E,zhf (zhf e (zhZ c.seq)) (zhZ c.dig) = E := ⟨_,rfl⟩
 rw [hE] at hK ⊢
 have tail : ∀ M,M = zdl c → zy Tryz.prog zbw [.box id 0, .d (.slice (zax c.signs))] (σ.set id (zmu (zhf E M)) ++ [zh.box [AV.d (D.int .i64 c.seq),AV.d (D.int .i64 c.dig),AV.d (D.slice (zax c.signs))]]) fun _ s => AW.Ends σ.length K (some []) s := fun M hM => by
  subst hM
  refine c_askSigns (hS _ _) hl0 ?_
  rw [hP]
  exact zji (by simp [zcf,dmT,zbu]) hl (zhb _ _) hK
 have no : zdl c = 100 → zy Tryz.prog zaL [.box id 0, .d (.int .i64 100)] (σ.set id (zmu E) ++ [zh.box [AV.d (D.int .i64 c.seq),AV.d (D.int .i64 c.dig),AV.d (D.slice (zax c.signs))]]) fun _ s => fl 2 (.box σ.length 0) s fun g s => cA Tryz.prog zbw [.box id 0,g] s fun _ s => AW.Ends σ.length K (some []) s := fun h => by
  refine c_says (hS _ _) ?_
  rw [hP]
  (repeat' first | refine zcY hB ?_ | with_reducible first | exact ⟨⟩ | refine zg ?_ | fail)
  exact tail 100 h.symm
 have yes : zdl c = 0 → zy Tryz.prog zbw [.box id 0, .d (.slice (zax c.signs))] (σ.set id (zmu E) ++ [zh.box [AV.d (D.int .i64 c.seq),AV.d (D.int .i64 c.dig),AV.d (D.slice (zax c.signs))]]) fun _ s => AW.Ends σ.length K (some []) s := fun h => by
  have := tail 0 h.symm
  rw [thn_0] at this
  exact this
 cases h1 : (c.seq == 0)
 ·cases h2 : (c.dig == 0)
  ·(repeat' first | refine gq35 (zbz hB (zbz h1 h2)) ?_ | with_reducible first | exact ⟨⟩ | refine zg ?_ | fail)
   exact yes (by simp at h1 h2; simp [zdl,h1,h2])
  ·(repeat' first | refine gq36 (zbz hB (zbz h1 h2)) ?_ | with_reducible first | exact ⟨⟩ | refine zg ?_ | fail)
   exact no (by simp at h1 h2; simp [zdl,h1,h2])
 ·cases h2 : (c.dig == 0)
  ·(repeat' first | refine gq36 (zbz hB (zbz h1 h2)) ?_ | with_reducible first | exact ⟨⟩ | refine zg ?_ | fail)
   exact no (by simp at h1 h2; simp [zdl,h1,h2])
  ·cases h3 : decide ((c.signs.length : Int) > 0)
   ·(repeat' first | refine gq35 (zbz hB (zbz h1 (zbz h2 (zbz hlen h3)))) ?_ | with_reducible first | exact ⟨⟩ | refine zg ?_ | fail)
    exact yes (by simp at h1 h2 h3; simp [zdl,h1,h2,h3])
   ·(repeat' first | refine gq35 (zbz hB (zbz h1 (zbz h2 (zbz hlen h3)))) ?_ | with_reducible first | exact ⟨⟩ | refine zg ?_ | fail)
    exact no (by simp only [beq_iff_eq,decide_eq_true_eq] at h1 h2 h3; rw [zdl,if_pos (.inr ⟨h1,by omega⟩)])
end Go.Proofs.YtncpaekiidpchaaGreat
