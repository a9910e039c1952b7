/- Which proofs may be: the first error of all that is asked. No program in sight. -/
import Derived.Test.YtfjommppajkpoaaGreatId5
import Derived.Test.YtfjommppajkpoaaGreatSpUtf
import Derived.Test.YtfjommppajkpoaaGreatOp1
import Derived.Test.YtfjommppajkpoaaGreatOpC
import Derived.Test.YtfjommppajkpoaaGreatCodec1
set_option linter.all false
namespace Go.AW
def zbV : List Int → Int
 | [] => 0
 | e :: r => if e ≠ 0 then e else zbV r
theorem zfG (a b : List Int) : zbV (a ++ b) = if zbV a ≠ 0 then zbV a else zbV b := by
 induction a with
 | nil => simp [zbV]
 | cons e r ih =>
  simp only [List.cons_append,zbV,ih]
  by_cases h : e = 0
  ·simp [h]
  ·simp [h]
theorem zrm {a b : List Int} (h : zbV a = 0) : zbV (a ++ b) = zbV b := by rw [zfG,if_neg (by simpa using h)]
theorem zkO {a b : List Int} (h : zbV a ≠ 0) : zbV (a ++ b) = zbV a := by rw [zfG,if_pos h]
def zgY (e x : Int) : Int := if e ≠ 0 then e else x
theorem thn_fst (e : Int) (l : List Int) : zgY e (zbV l) = zbV (e :: l) := rfl
def inE (n lo hi : Int) : Int := if n < lo ∨ n > hi then 100 else 0
def zhH (n : Int) : Int := inE n 0 9007199254740992
def posE (n : Int) : Int := inE n 1 9007199254740992
def zsC (s : List UInt8) : Int := if zeL s = true then 0 else 61
def zeH (l : List zI) : List Int := inE l.length 0 13 :: l.map fun s => zab s.key s.dig
def zcZ (c : zfV) : Int := if ((c.seq = 0) ≠ (c.dig = 0)) ∨ (c.seq = 0 ∧ 0 < c.signs.length) then 100 else 0
def zeX (c : zfV) : List Int := zhH c.seq :: zhH c.dig :: zcZ c :: zeH c.signs
def zgv (h : zdW) : List Int := [posE h.seq,zhH h.prev,zhH h.batch,zhH h.root,zhH h.state]
structure zaE where
 topic : List UInt8
 offset : Int
 rec_ : List UInt8
 headers : List zdW
 index : Int
 count : Int
 path : List Int
 cert : zfV
abbrev proofD (p : zaE) : List D := [.str p.topic, .int .i64 p.offset, .slice (bcs p.rec_), .slice (zdf p.headers), .int .i64 p.index, .int .i64 p.count, .slice (zbd p.path), .int .i64 p.cert.seq, .int .i64 p.cert.dig, .slice (zas p.cert.signs)]
abbrev zcp (p : zaE) : AV := .agg [.d (.str p.topic), .d (.int .i64 p.offset), .d (.slice (bcs p.rec_)), .d (.slice (zdf p.headers)), .d (.int .i64 p.index), .d (.int .i64 p.count), .d (.slice (zbd p.path)), .d (.int .i64 p.cert.seq), .d (.int .i64 p.cert.dig), .d (.slice (zas p.cert.signs))]
abbrev ziN (c : zfV) : AV := .agg [.d (.int .i64 c.seq), .d (.int .i64 c.dig), .d (.slice (zas c.signs))]
def zef (p : zaE) : List Int := [zsC p.topic,zhH p.offset,inE p.rec_.length 0 64,inE p.headers.length 0 64]
def zbg (p : zaE) : List Int := [zhH p.index,inE p.count 0 16]
def zdz (p : zaE) : List Int := [inE p.index 0 (p.count - 1),inE p.path.length 0 8]
def znp (p : zaE) : List Int := zef p ++ ((p.headers.map zgv).flatten ++ (zbg p ++ (zdz p ++ (p.path.map zhH ++ zeX p.cert))))
def zbW (p : zaE) : Int := zbV (znp p)
theorem inE_0 {n lo hi : Int} (h : inE n lo hi = 0) : lo ≤ n ∧ n ≤ hi := by
 unfold inE at h
 split at h
 ·cases h
 ·omega
theorem numE_0 {n : Int} (h : zhH n = 0) : 0 ≤ n ∧ n ≤ 9007199254740992 := inE_0 h
end Go.AW

/- Contracts: what is asked of a proof, the program's. -/
set_option maxRecDepth 100000
namespace Go.Proofs.YtfjommppajkpoaaGreat
open Go.AW
abbrev zlK (e : Int) : zg := .box [.d (.int .i64 e)]
theorem zgS (n : Nat) (e : Int) : zuo n (zlK e) := by
 intro c hc
 simp only [List.mem_cons,List.not_mem_nil,or_false] at hc
 subst hc; exact .d _
theorem c_says {σ : List zg} {id : Nat} {e x : Int} (hσ : σ[id]? = some (zlK e)) {K : KT} (hK : K (.tup []) (σ.set id (zlK (zgY e x)))) : zq Tryz.prog zaI [.box id 0, .d (.int .i64 x)] σ K := by
 refine zga zlR fun hl => ?_
 simp only [zgD,iN,bT,bF,eN]
 cases h : (e == 0)
 ·rw [zgY,if_pos (by simpa using h),zby hσ] at hK
  refine zcJ (zbi hσ h) ?_
  refine zK hl ?_
  exact hK
 ·rw [zgY,if_neg (by simpa using h)] at hK
  refine zcJ (zbi hσ h) ?_
  exact zeu (by simp [zbY,dmT,zbf]) hl (zgS _ _) hK
theorem thn_0 (e : Int) : zgY e 0 = e := by
 unfold zgY; split
 ·rfl
 ·rename_i h; simp at h; exact h.symm
theorem zvu {σ : List zg} {id : Nat} {e n lo hi : Int} (hσ : σ[id]? = some (zlK e)) {K : KT} (hK : K (.tup []) (σ.set id (zlK (zgY e (inE n lo hi))))) :
  zq Tryz.prog zbG [.box id 0, .d (.int .i64 n), .d (.int .i64 lo), .d (.int .i64 hi)] σ K := by
 refine acE4 znK fun hl => ?_
 simp only [zhY,iN,bT,bF,eN]
 have bad : (n < lo ∨ n > hi) → zq Tryz.prog zaI [.box id 0, .d (.int .i64 100)] σ fun _ s => AW.Ends σ.length K (some []) s := fun h => by
  rw [inE,if_pos h] at hK
  refine c_says hσ ?_
  exact zeu (by simp [zbY,dmT,zbf]) hl (zgS _ _) hK
 cases h1 : decide (n < lo)
 ·cases h2 : decide (n > hi)
  ·rw [inE,if_neg (by simp at h1 h2; omega),thn_0,zby hσ] at hK
   refine zcJ (zbi h1 h2) ?_
   refine zK hl ?_
   exact hK
  ·refine zcJ (zbi h1 h2) ?_
   exact bad (.inr (by simpa using h2))
 ·refine zcJ h1 ?_
  exact bad (.inl (by simpa using h1))
theorem zlI {σ : List zg} {id : Nat} {e n : Int} (hσ : σ[id]? = some (zlK e)) {K : KT} (hK : K (.tup []) (σ.set id (zlK (zgY e (zhH n))))) :
  zq Tryz.prog zaN [.box id 0, .d (.int .i64 n)] σ K := by
 refine zga zmQ fun hl => ?_
 simp only [zhF,iN,bT,bF,eN]
 refine zhJ ?_
 refine zvu hσ ?_
 exact zeu (by simp [zbY,dmT,zbf]) hl (zgS _ _) hK
theorem c_askPos {σ : List zg} {id : Nat} {e n : Int} (hσ : σ[id]? = some (zlK e)) {K : KT} (hK : K (.tup []) (σ.set id (zlK (zgY e (posE n))))) :
  zq Tryz.prog zet [.box id 0, .d (.int .i64 n)] σ K := by
 refine zga zmP fun hl => ?_
 simp only [zhE,iN,bT,bF,eN]
 refine zhJ ?_
 refine zvu hσ ?_
 exact zeu (by simp [zbY,dmT,zbf]) hl (zgS _ _) hK
theorem zkZ {σ : List zg} {id : Nat} {e n hi : Int} (hσ : σ[id]? = some (zlK e)) {K : KT} (hK : K (.tup []) (σ.set id (zlK (zgY e (inE n 0 hi))))) :
  zq Tryz.prog zaV [.box id 0, .d (.int .i64 n), .d (.int .i64 hi)] σ K := by
 refine acE3 zlT fun hl => ?_
 simp only [zgF,iN,bT,bF,eN]
 refine zhJ ?_
 refine zvu hσ ?_
 exact zeu (by simp [zbY,dmT,zbf]) hl (zgS _ _) hK
theorem c_askName {σ : List zg} {id : Nat} {e : Int} {x : List UInt8} (hσ : σ[id]? = some (zlK e)) (hx : x.length ≤ 1073741824) {K : KT} (hK : K (.tup []) (σ.set id (zlK (zgY e (zsC x))))) :
  zq Tryz.prog zdR [.box id 0, .d (.str x)] σ K := by
 refine zga zlS fun hl => ?_
 simp only [zgE,iN,bT,bF,eN]
 refine zhJ ?_
 refine c_Name hx ?_
 cases h : zeL x
 ·rw [zsC,if_neg (by simp [h])] at hK
  refine zhJ ?_
  refine c_says hσ ?_
  exact zeu (by simp [zbY,dmT,zbf]) hl (zgS _ _) hK
 ·rw [zsC,if_pos h,thn_0,zby hσ] at hK
  refine zhJ ?_
  refine zK hl ?_
  exact hK
theorem fst_snoc (e : Int) (l : List Int) (x : Int) : zgY (zbV (e :: l)) x = zbV (e :: (l ++ [x])) := by
 rw [show e :: (l ++ [x]) = (e :: l) ++ [x] from rfl,zfG]
 unfold zgY
 split
 ·rfl
 ·simp [zbV]
theorem zgQ {α β : Type} {f : α → β} {l : List α} {k : Nat} {x : α} (h : l[k]? = some x) : (l.take (k + 1)).map f = (l.take k).map f ++ [f x] := by
 rw [List.take_add_one,h]; simp
theorem wkc (k : Nat) (h : k ≤ 1073741824) : IntKind.i64.wrap ((k : Int) + 1) = ((k + 1 : Nat) : Int) := by rw [zJ (by omega) (by omega)]; rfl
theorem fst1 (e x : Int) : zbV [e,x] = zgY e x := by
 unfold zgY
 simp only [zbV]
 split
 ·rfl
 ·split
  ·rfl
  ·rename_i h; simp at h; exact h.symm
theorem bft : ((false : Bool) == true) = false := rfl
theorem btf : ((true : Bool) == false) = false := rfl
theorem gq28 {A P Q : Prop} (a : A) (h : Q) (e : A → Hd Q → P := by intro a h; (repeat' first | simp -dsimp only [↓zgr, ↓zaF, ↓zbL, ↓zgt, ↓zgn, ↓zgl, ↓zgo, ↓zgm, ↓zbR, ↓zbN, ↓zbS, ↓zbO, ↓zgp, ↓zbJ, ↓zbT, ↓zbP, ↓zbU, ↓zbQ, ↓zgj, ↓zgq, ↓zbI, ↓zbX, ↓zgc, ↓zgb, ↓zgi,iN,bT,bF,eN, ↓zdN, ↓unC, ↓zac, ↓zQ, ↓zR, ↓zV, ↓zak, ↓zau, ↓zco, ↓zag, ↓zaJ, ↓zW, ↓zp, ↓zo, ↓zbF, ↓zl, ↓zan, ↓zF, ↓zaM, ↓zaW, ↓ze, ↓zC, ↓zu, ↓zy, ↓zav, ↓zdr, ↓zdU, ↓zat, ↓zaB, ↓zaU, ↓zbk, ↓zbv, ↓zD, ↓zaq, ↓zS, ↓zE, ↓zam,zeb,zbD,zbB,unA,zei,bnd,zeF,zai,zP,zeE,dm,dm1,zB,zal,zfg,zff,zx,Q0,Q1,Q2,Q3,Q4,Q5,zZ,zh,zm,zT,zN,Q6,Q7,Q8,Q9,Q10,Q11,Q12,Q13,Q14,Nat.reduceAdd,Q15,Int.reduceToNat,Q16,Q17,Q18,Q19,Q20,reduceIte,Q21,Q22,zH,rep,zX,zfc,toD,zah,Q23,Q24,Q25,Q26,Q27,Q28,Nat.reduceLeDiff,Q29,Nat.reduceSub,Q30,Q31,Q32,sc,Q33,Q34,Q35,Q36,Q37,Q26,Q38,Q39,zkn,zkk,zkh,zko,zdu,zkl,zki,zkm,zkj,zdt,zdv,zkp,zkq,Bool.not_true,Bool.not_false,List.length_map,Bool.and_false,Bool.and_self,Bool.false_and,Bool.not_false,Bool.not_true,Bool.true_and,Int.toNat_natCast,Int.toNat_zero,List.drop_zero,List.length_map,List.length_nil,List.nil_append,List.take_length,Nat.sub_zero,Nat.zero_add,Option.isSome_none,Option.isSome_some,Option.map_none,Option.map_some,zaH,beq_self_eq_true,bft,bne_self_eq_false,btf,zcl,ziN,zuJ,zcv,zji,opA,zfI,zkv,zeI,a] | with_reducible refine zkr ?_ | fail); exact h.go) : P := e a ⟨h⟩
theorem c_askSigns {σ : List zg} {id : Nat} {e : Int} {l : List zI} (hσ : σ[id]? = some (zlK e)) (hl0 : l.length ≤ 1073741824) {K : KT} (hK : K (.tup []) (σ.set id (zlK (zgY e (zbV (zeH l)))))) :
  zq Tryz.prog zbh [.box id 0, .d (.slice (zas l))] σ K := by
 refine zga zkT fun hl => ?_
 have hlen : (zas l).length = l.length := List.length_map ..
 have hid := zA hσ
 rw [thn_fst,zeH] at hK
 simp only [zfW,iN,bT,bF,eN]
 refine zcJ hlen ?_
 refine zkZ hσ ?_
 refine zcJ hlen ?_
 refine zw l.length (fun k vs s => vs = [.d (.int .i64 k)] ∧ ∃ T,s = σ.set id (zlK (zbV (e :: (inE l.length 0 13 :: (l.take k).map fun s => zab s.key s.dig)))) ++ T) ⟨rfl, [],by rw [List.take_zero,List.map_nil,fst1,List.append_nil]⟩ ?_
 rintro k vs s hk ⟨rfl,T,rfl⟩
 by_cases hlt : k < l.length
 ·have hd : decide ((k : Int) < (l.length : Int)) = true := by simp; omega
  have hx : l[k]? = some l[k] := by simp [hlt]
  have hgx := zU (f := zfI) hx
  obtain ⟨x,hxe⟩ : ∃ x,l[k] = x := ⟨_,rfl⟩
  rw [hxe] at hx hgx
  have hmn := zgQ (f := fun s : zI => zab s.key s.dig) hx
  have fs := fst_snoc e (inE l.length 0 13 :: (l.take k).map fun s => zab s.key s.dig) (zab x.key x.dig)
  simp only [List.cons_append] at fs
  rw [← hmn] at fs
  obtain ⟨E,hE⟩ : ∃ E,zbV (e :: (inE l.length 0 13 :: (l.take k).map fun s => zab s.key s.dig)) = E := ⟨_,rfl⟩
  rw [hE] at fs ⊢
  have hS : ∀ τ,(σ.set id (zlK E) ++ τ)[id]? = some (zlK E) := fun τ => zf (zbs hσ)
  refine gq28 (zbi hd (zbi hgx hlen)) ?_
  refine zvj ?_
  refine zhJ ?_
  refine c_says (e := E) (hS _) ?_
  rw [zbz (zbs hσ),List.set_set]
  refine zcJ (wkc k (by omega)) ?_
  exact zap.next hlt ⟨rfl,_,by rw [fs]⟩
 ·have hd : decide ((k : Int) < (l.length : Int)) = false := by simp; omega
  rw [List.take_of_length_le (by omega)]
  refine zcJ hd ?_
  exact ziG (by simp [zbY,dmT,zbf]) hl (zgS _ _) hK
theorem gq29 {A P Q : Prop} (a : A) (h : Q) (e : A → Hd Q → P := by intro a h; (repeat' first | simp -dsimp only [↓zgr, ↓zaF, ↓zbL, ↓zgt, ↓zgn, ↓zgl, ↓zgo, ↓zgm, ↓zbR, ↓zbN, ↓zbS, ↓zbO, ↓zgp, ↓zbJ, ↓zbT, ↓zbP, ↓zbU, ↓zbQ, ↓zgj, ↓zgq, ↓zbI, ↓zbX, ↓zgc, ↓zgb, ↓zgi,iN,bT,bF,eN, ↓zdN, ↓unC, ↓zac, ↓zQ, ↓zR, ↓zV, ↓zak, ↓zau, ↓zco, ↓zag, ↓zaJ, ↓zW, ↓zp, ↓zo, ↓zbF, ↓zl, ↓zan, ↓zF, ↓zaM, ↓zaW, ↓ze, ↓zC, ↓zu, ↓zy, ↓zav, ↓zdr, ↓zdU, ↓zat, ↓zaB, ↓zaU, ↓zbk, ↓zbv, ↓zD, ↓zaq, ↓zS, ↓zE, ↓zam,zeb,zbD,zbB,unA,zei,bnd,zeF,zai,zP,zeE,dm,dm1,zB,zal,zfg,zff,zx,Q0,Q1,Q2,Q3,Q4,Q5,zZ,zh,zm,zT,zN,Q6,Q7,Q8,Q9,Q10,Q11,Q12,Q13,Q14,Nat.reduceAdd,Q15,Int.reduceToNat,Q16,Q17,Q18,Q19,Q20,reduceIte,Q21,Q22,zH,rep,zX,zfc,toD,zah,Q23,Q24,Q25,Q26,Q27,Q28,Nat.reduceLeDiff,Q29,Nat.reduceSub,Q30,Q31,Q32,sc,Q33,Q34,Q35,Q36,Q37,Q26,Q38,Q39,zkn,zkk,zkh,zko,zdu,zkl,zki,zkm,zkj,zdt,zdv,zkp,zkq,Bool.not_true,Bool.not_false,List.length_map,Bool.and_false,Bool.and_self,Bool.false_and,Bool.not_false,Bool.not_true,Bool.true_and,Int.toNat_natCast,Int.toNat_zero,List.drop_zero,List.length_map,List.length_nil,List.nil_append,List.take_length,Nat.sub_zero,Nat.zero_add,Option.isSome_none,Option.isSome_some,Option.map_none,Option.map_some,zaH,beq_self_eq_true,bft,bne_self_eq_false,btf,a] | with_reducible refine zkr ?_ | fail); exact h.go) : P := e a ⟨h⟩
theorem c_askCert {σ : List zg} {id : Nat} {e : Int} {c : zfV} (hσ : σ[id]? = some (zlK e)) (hl0 : c.signs.length ≤ 1073741824) {K : KT} (hK : K (.tup []) (σ.set id (zlK (zgY e (zbV (zeX c)))))) :
  zq Tryz.prog zdS [.box id 0,ziN c] σ K := by
 refine zga zlU fun hl => ?_
 have hlen : (zas c.signs).length = c.signs.length := List.length_map ..
 simp only [zgG,iN,bT,bF,eN,ziN]
 have hB : ∀ X,(σ.set id X ++ [zg.box [AV.d (D.int .i64 c.seq),AV.d (D.int .i64 c.dig),AV.d (D.slice (zas c.signs))]])[σ.length]? = some (zg.box [AV.d (D.int .i64 c.seq),AV.d (D.int .i64 c.dig),AV.d (D.slice (zas c.signs))]) := fun X => by
  rw [List.getElem?_append_right (by simp)]; simp
 have hS : ∀ E τ,(σ.set id (zlK E) ++ τ)[id]? = some (zlK E) := fun E τ => zf (zbs hσ)
 have hP : ∀ E Y τ,(σ.set id (zlK E) ++ τ).set id Y = σ.set id Y ++ τ := fun E Y τ => by rw [zbz (zbs hσ),List.set_set]
 have e4 : zgY e (zbV (zeX c)) = zgY (zgY (zgY (zgY e (zhH c.seq)) (zhH c.dig)) (zcZ c)) (zbV (zeH c.signs)) := by
  simp only [zeX,zbV,zgY]
  by_cases h0 : e = 0
  ·by_cases h1 : zhH c.seq = 0
   ·by_cases h2 : zhH c.dig = 0
    ·by_cases h3 : zcZ c = 0
     ·simp [h0,h1,h2,h3]
     ·simp [h0,h1,h2,h3]
    ·simp [h0,h1,h2]
   ·simp [h0,h1]
  ·simp [h0]
 rw [e4] at hK
 refine zhJ ?_
 refine zlI (zf hσ) ?_
 rw [zbz hσ]
 refine zcJ hB ?_
 refine zlI (hS _ _) ?_
 rw [hP]
 obtain ⟨E,hE⟩ : ∃ E,zgY (zgY e (zhH c.seq)) (zhH c.dig) = E := ⟨_,rfl⟩
 rw [hE] at hK ⊢
 have tail : ∀ M,M = zcZ c → zq Tryz.prog zbh [.box id 0, .d (.slice (zas c.signs))] (σ.set id (zlK (zgY E M)) ++ [zg.box [AV.d (D.int .i64 c.seq),AV.d (D.int .i64 c.dig),AV.d (D.slice (zas c.signs))]]) fun _ s => AW.Ends σ.length K (some []) s := fun M hM => by
  subst hM
  refine c_askSigns (hS _ _) hl0 ?_
  rw [hP]
  exact ziG (by simp [zbY,dmT,zbf]) hl (zgS _ _) hK
 have no : zcZ c = 100 → zq Tryz.prog zaI [.box id 0, .d (.int .i64 100)] (σ.set id (zlK E) ++ [zg.box [AV.d (D.int .i64 c.seq),AV.d (D.int .i64 c.dig),AV.d (D.slice (zas c.signs))]]) fun _ s => fl 2 (.box σ.length 0) s fun g s => cA Tryz.prog zbh [.box id 0,g] s fun _ s => AW.Ends σ.length K (some []) s := fun h => by
  refine c_says (hS _ _) ?_
  rw [hP]
  refine zcJ hB ?_
  exact tail 100 h.symm
 have yes : zcZ c = 0 → zq Tryz.prog zbh [.box id 0, .d (.slice (zas c.signs))] (σ.set id (zlK E) ++ [zg.box [AV.d (D.int .i64 c.seq),AV.d (D.int .i64 c.dig),AV.d (D.slice (zas c.signs))]]) fun _ s => AW.Ends σ.length K (some []) s := fun h => by
  have := tail 0 h.symm
  rw [thn_0] at this
  exact this
 cases h1 : (c.seq == 0)
 ·cases h2 : (c.dig == 0)
  ·refine gq29 (zbi hB (zbi h1 h2)) ?_
   exact yes (by simp at h1 h2; simp [zcZ,h1,h2])
  ·refine gq29 (zbi hB (zbi h1 h2)) ?_
   exact no (by simp at h1 h2; simp [zcZ,h1,h2])
 ·cases h2 : (c.dig == 0)
  ·refine gq29 (zbi hB (zbi h1 h2)) ?_
   exact no (by simp at h1 h2; simp [zcZ,h1,h2])
  ·cases h3 : decide ((c.signs.length : Int) > 0)
   ·refine gq29 (zbi hB (zbi h1 (zbi h2 (zbi hlen h3)))) ?_
    exact yes (by simp at h1 h2 h3; simp [zcZ,h1,h2,h3])
   ·refine gq29 (zbi hB (zbi h1 (zbi h2 (zbi hlen h3)))) ?_
    exact no (by simp only [beq_iff_eq,decide_eq_true_eq] at h1 h2 h3; rw [zcZ,if_pos (.inr ⟨h1,by omega⟩)])
end Go.Proofs.YtfjommppajkpoaaGreat
