/- Contracts: chains of headers, leaves, a header's digest, on both sides. -/
import Derived.Test.YtncpaekiidpchaaGreatHd1
import Derived.Test.YtncpaekiidpchaaGreatRq2
import Derived.Test.YtncpaekiidpchaaGreatMk5
import Derived.Test.YtncpaekiidpchaaGreatSpUtf
set_option linter.all false
set_option maxRecDepth 100000
namespace Go.Proofs.YtncpaekiidpchaaGreat
open Go.AW
theorem hdr_seq {h : zcF} (hk : zaH h = 0) : 0 ≤ h.seq ∧ h.seq ≤ 9007199254740992 := zdE (zdl.1 hk) h.seq (by simp [zkD])
theorem checkHF_ne {h : zcF} (hk : (zaH h == 0) = false) : zfQ h = false := by
 cases e : zfQ h with
 | false => rfl
 | true => rw [zdl.2 e] at hk; cases hk
def aheadF (l : List zcF) : Nat → Option zcF
 | 0 => none
 | k + 1 => l[k]?
theorem ziU {l : List zcF} {k : Nat} {h : zcF} (hx : l[k]? = some h) : aheadF l (k + 1) = some h := hx
theorem zua {h : zcF} (hk : zaH h = 0) : hdrBF h = znl h := if_pos hk
theorem c_blMade {σ : List zg} {id m t : Nat} {L : List (List UInt8)} (hT : zcl σ id m t L) (hL : zkk L) {K : KT} (hK : K (.d (.bool true)) σ) : zD Tryz.prog zkB [.box id 0] σ K := by
 refine zj zpC.is rfl fun hl _ => zpC.goes ?_
 simp only [zpR,iN,bT,bF,eN]
 (repeat' first | refine gq1 ?_ | with_reducible first | exact ⟨⟩ | refine zh ?_ | fail)
 refine zlA hT hL.nd hL.len hL.each ?_
 (repeat' first | refine gq1 ?_ | with_reducible first | exact ⟨⟩ | refine zh ?_ | fail)
 (first | refine zaq hl ?_ | refine zap hl ?_)
 exact hK
theorem gq32 {A P Q : Prop} (a : A) (h : Q) (e : A → P = Q := by intro a; simp -dsimp only [↓zey, ↓zau, ↓zbj, ↓zeA, ↓zes, ↓zeq, ↓zet, ↓zer, ↓zbo, ↓zbk, ↓zbp, ↓zbl, ↓zeu, ↓zbi, ↓zbq, ↓zbm, ↓zbr, ↓zbn, ↓zep, ↓zew, ↓zbh, ↓zbs, ↓zeg, ↓zef, ↓zeo,iN,bT,bF,eN, ↓zcS, ↓unC, ↓zW, ↓zK, ↓zL, ↓zN, ↓zZ, ↓zaw, ↓zbT, ↓zag, ↓zbu, ↓zP, ↓zq, ↓zo, ↓zby, ↓zl, ↓zaf, ↓zH, ↓zaC, ↓zaG, ↓ze, ↓zC, ↓zt, ↓zw, ↓zan, ↓zcC, ↓zdb, ↓zal, ↓zat, ↓zaF, ↓zaP, ↓zaW, ↓zu, ↓zai, ↓zM, ↓zA, ↓zaa,zdi,zbd,zba,unA,zdk,bnd,zdw,zac,zS,zdy,dm,dm1,zB,zak,zdP,zdO,zQ,Q0,Q1,Q2,Q3,Q4,Q5,zR,zr,zy,zO,zI,Q6,Q7,Q8,Q9,Q10,Q11,Q12,Q13,Q14,Nat.reduceAdd,Q15,Int.reduceToNat,Q16,Q17,Q18,Q19,Q20,reduceIte,Q21,Q22,zE,rep,zV,zdG,toD,zab,Q23,Q24,Q25,Q26,Q27,Q28,Nat.reduceLeDiff,Q29,Nat.reduceSub,Q30,Q31,Q32,sc,Q33,Q34,Q35,Q36,Q37,Q26,Q38,Q39,zgH,zgE,zgB,zgI,zcf,zgF,zgC,zgG,zgD,zce,zcg,zgJ,zgK,Bool.not_true,Bool.not_false,List.length_map,Option.isSome_some,a]; rfl) : P := (e a).mpr h
theorem c_blChain {σ : List zg} {id m t : Nat} {L : List (List UInt8)} {l : List zcF} (hT : zcl σ id m t L) (hL : zkk L) (hl0 : l.length ≤ 1073741824) {K : KT} (hK : K (.d (.bool (zrn L l))) σ) :
  zD Tryz.prog zjw [.box id 0, .d (.slice (zeM l))] σ K := by
 refine zj znE.is rfl fun hl _ => znE.goes ?_
 have fin : ∀ z,zrn L l = z → K (.d (.bool z)) σ := fun z h => h ▸ hK
 clear hK
 have hlen : (zeM l).length = l.length := List.length_map ..
 simp only [zoc,iN,bT,bF,eN]
 (repeat' first | refine gq1 ?_ | with_reducible first | exact ⟨⟩ | refine zh ?_ | fail)
 refine c_blMade hT hL ?_
 (repeat' first | refine gq2 hlen ?_ | with_reducible first | exact ⟨⟩ | refine zh ?_ | fail)
 refine zG l.length (fun k vs s => vs = [.d (.int .i64 k)] ∧ (∃ T,s = σ ++ T) ∧ zrn L l = zlZ L (aheadF l k) (l.drop k) ∧ ∀ q,aheadF l k = some q → zaH q = 0) ⟨rfl,⟨[],by simp⟩,rfl,by simp [aheadF]⟩ ?_
 rintro k vs s hk ⟨rfl,⟨T,rfl⟩,hpf,hq⟩
 by_cases hlt : k < l.length
 ·have hd : decide ((k : Int) < (l.length : Int)) = true := by simp; omega
  have hx : l[k]? = some l[k] := by simp [hlt]
  have hgx := zae (f := hdrD) hx
  obtain ⟨h,hhe⟩ : ∃ h,l[k] = h := ⟨_,rfl⟩
  rw [hhe] at hx hgx
  rw [chain_drop hx] at hpf
  (repeat' first | refine gq2 (zd hd (zd hgx hlen)) ?_ | with_reducible first | exact ⟨⟩ | refine zh ?_ | fail)
  refine c_blCheck (h := h) ?_
  cases hc : (zaH h == 0)
  ·have hc' : (zaH h != 0) = true := by simpa using hc
   (repeat' first | refine gq2 hc' ?_ | with_reducible first | exact ⟨⟩ | refine zh ?_ | fail)
   (first | refine zaq hl ?_ | refine zap hl ?_)
   exact fin _ (by rw [hpf,checkHF_ne hc]; rfl)
  have hc0 : zaH h = 0 := by simpa using hc
  have hhs := hdr_seq hc0
  rw [zdl.1 hc0,Bool.true_and] at hpf
  rw [hc0]
  cases k with
  | zero =>
   (repeat' first | refine gq2 (zd (show ((0 : Int) != 0) = false from rfl) (zd (show (((0 : Nat) : Int) == 0) = true from rfl) (wki 0 (by omega)))) ?_ | with_reducible first | exact ⟨⟩ | refine zh ?_ | fail)
   refine zav.next hlt ⟨rfl,⟨_,rfl⟩, ?_, ?_⟩
   ·rw [hpf]; simp [aheadF,linkF,hx]
   ·intro q hq2
    rw [ziU hx] at hq2
    cases hq2; exact hc0
  | succ j =>
   have hz : (((j + 1 : Nat) : Int) == 0) = false := by simp; omega
   have hy : l[j]? = some l[j] := by simp [show j < l.length by omega]
   have hgy := zae (f := hdrD) hy
   obtain ⟨q,hqe⟩ : ∃ q,l[j] = q := ⟨_,rfl⟩
   rw [hqe] at hy hgy
   have hqc := hq q (ziU hy)
   have hqs := hdr_seq hqc
   have hw1 : IntKind.i64.wrap (((j + 1 : Nat) : Int) - 1) = (j : Int) := by rw [zX (by omega) (by omega)]; omega
   have hw2 : IntKind.i64.wrap (h.seq - 1) = h.seq - 1 := zX (by omega) (by omega)
   have hw3 := wki (j + 1) (by omega)
   rw [ziU hy] at hpf
   (repeat' first | refine gq2 (zd (show ((0 : Int) != 0) = false from rfl) (zd hz (zd hw1 (zd hgy hlen)))) ?_ | with_reducible first | exact ⟨⟩ | refine zh ?_ | fail)
   refine c_blBytes (h := q) ?_
   rw [zua hqc,hqc]
   (repeat' first | refine gq1 ?_ | with_reducible first | exact ⟨⟩ | refine zh ?_ | fail)
   refine zmI (hT.app _) ?_
   cases hlk : zcu L (znl q) with
   | none =>
    (repeat' first | refine gq7 ?_ | with_reducible first | exact ⟨⟩ | refine zh ?_ | fail)
    (first | refine zaq hl ?_ | refine zap hl ?_)
    exact fin _ (by rw [hpf]; simp [linkF,hlk])
   | some i =>
    simp only [linkF,hlk] at hpf
    simp only [zks]
    cases h1 : (h.prev == ((i + 1 : Nat) : Int))
    ·have h1' : (h.prev != ((i + 1 : Nat) : Int)) = true := by simpa using h1
     (repeat' first | refine gq32 (zd hgx h1') ?_ | with_reducible first | exact ⟨⟩ | refine zh ?_ | fail)
     (first | refine zaq hl ?_ | refine zap hl ?_)
     exact fin _ (by rw [hpf,h1]; rfl)
    have h1' : (h.prev != ((i + 1 : Nat) : Int)) = false := by simpa using h1
    have e2 : (h.seq - 1 != q.seq) = !(h.seq == q.seq + 1) := by
     rw [Bool.eq_iff_iff]
     simp only [bne_iff_ne,Bool.not_eq_true',beq_eq_false_iff_ne,ne_eq]
     omega
    cases h2 : (h.seq == q.seq + 1)
    ·rw [h2] at e2
     (repeat' first | refine gq32 (zd hgx (zd hgy (zd hw1 (zd hw2 (zd h1' e2))))) ?_ | with_reducible first | exact ⟨⟩ | refine zh ?_ | fail)
     (first | refine zaq hl ?_ | refine zap hl ?_)
     exact fin _ (by rw [hpf,h1,h2]; rfl)
    rw [h2] at e2
    (repeat' first | refine gq32 (zd hgx (zd hgy (zd hw1 (zd hw2 (zd h1' (zd e2 hw3)))))) ?_ | with_reducible first | exact ⟨⟩ | refine zh ?_ | fail)
    refine zav.next hlt ⟨rfl,⟨_,rfl⟩, ?_, ?_⟩
    ·rw [hpf,h1,h2,ziU hx]; rfl
    ·intro q2 hq2
     rw [ziU hx] at hq2
     cases hq2; exact hc0
 ·have hd : decide ((k : Int) < (l.length : Int)) = false := by simp; omega
  rw [List.drop_eq_nil_of_le (by omega)] at hpf
  (repeat' first | refine gq2 (zd hd hlen) ?_ | with_reducible first | exact ⟨⟩ | refine zh ?_ | fail)
  (first | refine zaq hl ?_ | refine zap hl ?_)
  exact fin _ hpf
theorem c_r7Leaves {σ : List zg} {l : List zaI} (hl0 : l.length ≤ 1073741824) (hp : ∀ p ∈ l,zjh p) {K : KT} (hK : K (.d (.slice (zdt (l.map zam)))) σ) : zD Tryz.prog zku [.d (.slice (zci l))] σ K := by
 refine zj zpr.is rfl fun hl _ => zpr.goes ?_
 have hlen : (zci l).length = l.length := List.length_map ..
 simp only [zpG,iN,bT,bF,eN]
 refine zaT l.length (fun k vs s => vs = [.own σ.length (zdt ((l.take k).map zam)), .d (.int .i64 k)] ∧ ∃ T,s = σ ++ (.tok 1 k :: T)) (.tok 0 [] 1 rfl (by simp) (.refl _ _)) ⟨by simp, [],rfl⟩ ?_
 rintro k vs s hk ⟨rfl,T,rfl⟩
 by_cases hlt : k < l.length
 ·have hd : decide ((k : Int) < (l.length : Int)) = true := by simp; omega
  have hx : l[k]? = some l[k] := by simp [hlt]
  have hpx := hp _ (List.getElem_mem hlt)
  have hgx := zae (f := zkq) hx
  obtain ⟨p,hpe⟩ : ∃ p,l[k] = p := ⟨_,rfl⟩
  rw [hpe] at hx hgx hpx
  have hnx : zdt ((l.take k).map zam) ++ [[D.slice (bcs (zam p))]] = zdt ((l.take (k + 1)).map zam) := by
   rw [List.take_add_one,hx]; simp
  have hk2 : (zdt ((l.take k).map zam)).length = k := by simp; omega
  (repeat' first | refine gq2 (zd hd (zd hgx hlen)) ?_ | with_reducible first | exact ⟨⟩ | refine zh ?_ | fail)
  refine c_r7Placed hpx ?_
  (repeat' first | refine gq2 (zd hk2 (zd hnx (wki k (by omega)))) ?_ | with_reducible first | exact ⟨⟩ | refine zh ?_ | fail)
  exact zav.next hlt ⟨rfl,_,rfl⟩
 ·have hd : decide ((k : Int) < (l.length : Int)) = false := by simp; omega
  rw [List.take_of_length_le (by omega)]
  (repeat' first | refine gq2 (zd hd hlen) ?_ | with_reducible first | exact ⟨⟩ | refine zh ?_ | fail)
  (first | refine zaq hl ?_ | refine zap hl ?_)
  exact hK
theorem c_blLeaves {σ : List zg} {l : List zaI} (hl0 : l.length ≤ 1073741824) (hp : ∀ p ∈ l,zjh p) {K : KT} (hK : K (.d (.slice (zdt (l.map zam)))) σ) : zD Tryz.prog zij [.d (.slice (zci l))] σ K := by
 refine zj zlY.is rfl fun hl _ => zlY.goes ?_
 have hlen : (zci l).length = l.length := List.length_map ..
 simp only [zmm,iN,bT,bF,eN]
 (repeat' first | refine gq2 hlen ?_ | with_reducible first | exact ⟨⟩ | refine zh ?_ | fail)
 refine zaT l.length (fun k vs s => vs = [.own σ.length (zdt ((l.take k).map zam)), .d (.int .i64 k)] ∧ ∃ T,s = σ ++ (.tok 1 k :: T)) (.tok 0 [] 1 rfl (by simp) (.refl _ _)) ⟨by simp, [],rfl⟩ ?_
 rintro k vs s hk ⟨rfl,T,rfl⟩
 by_cases hlt : k < l.length
 ·have hd : decide ((k : Int) < (l.length : Int)) = true := by simp; omega
  have hx : l[k]? = some l[k] := by simp [hlt]
  have hpx := hp _ (List.getElem_mem hlt)
  have hgx := zae (f := zkq) hx
  obtain ⟨p,hpe⟩ : ∃ p,l[k] = p := ⟨_,rfl⟩
  rw [hpe] at hx hgx hpx
  have hnx : zdt ((l.take k).map zam) ++ [[D.slice (bcs (zam p))]] = zdt ((l.take (k + 1)).map zam) := by
   rw [List.take_add_one,hx]; simp
  have hk2 : (zdt ((l.take k).map zam)).length = k := by simp; omega
  (repeat' first | refine gq2 (zd hd (zd hgx hlen)) ?_ | with_reducible first | exact ⟨⟩ | refine zh ?_ | fail)
  refine zth hpx ?_
  (repeat' first | refine gq2 (zd hk2 (zd hnx (wki k (by omega)))) ?_ | with_reducible first | exact ⟨⟩ | refine zh ?_ | fail)
  exact zav.next hlt ⟨rfl,_,rfl⟩
 ·have hd : decide ((k : Int) < (l.length : Int)) = false := by simp; omega
  rw [List.take_of_length_le (by omega)]
  (repeat' first | refine gq2 (zd hd hlen) ?_ | with_reducible first | exact ⟨⟩ | refine zh ?_ | fail)
  (first | refine zaq hl ?_ | refine zap hl ?_)
  exact hK
def hdigE (L : List (List UInt8)) (h : zcF) : Int := if zaH h ≠ 0 then zaH h else if zcI L (znl h) = 0 then 6 else 0
def ziA (L : List (List UInt8)) (h : zcF) : Int := if zaH h ≠ 0 then 0 else zcI L (znl h)
def zcO (L : List (List UInt8)) (h : zcF) : List (List UInt8) := if zaH h ≠ 0 then L else zdH L (znl h)
theorem zoW {σ : List zg} {id : Nat} {L : List (List UInt8)} {h : zcF} (hT : σ[id]? = some (rtO L)) (hL : L.length ≤ 1048576) {K : KT}
  (hK : K (.tup [.d (.int .i64 (ziA L h)), .d (.int .i64 (hdigE L h))]) (σ.set id (rtO (zcO L h)))) : zD Tryz.prog zhJ [.box id 0,hdrA h] σ K := by
 refine zj zps.is rfl fun hl _ => zps.goes ?_
 simp only [zpH,iN,bT,bF,eN,hdrA]
 (repeat' first | refine gq1 ?_ | with_reducible first | exact ⟨⟩ | refine zh ?_ | fail)
 refine c_hrBytes (h := h) ?_
 cases hc : (zaH h == 0)
 ·have hc' : (zaH h != 0) = true := by simpa using hc
  have hc0 : zaH h ≠ 0 := by simpa using hc
  simp only [hdigE,ziA,zcO,if_pos hc0] at hK
  rw [zbC hT] at hK
  (repeat' first | refine gq2 hc' ?_ | with_reducible first | exact ⟨⟩ | refine zh ?_ | fail)
  (first | refine zaq hl ?_ | refine zap hl ?_)
  exact hK
 have hc0 : zaH h = 0 := by simpa using hc
 have hbl := hdrB_len (zdl.1 hc0)
 simp only [hdigE,ziA,zcO,hc0,ne_eq,not_true_eq_false,if_false] at hK
 rw [zua hc0,hc0]
 (repeat' first | refine gq2 (show ((0 : Int) != 0) = false from rfl) ?_ | with_reducible first | exact ⟨⟩ | refine zh ?_ | fail)
 refine zjF (zf hT) (by omega) hL ?_
 rw [zbI hT]
 have hl1 : zfc σ.length (σ.set id (rtO (zdH L (znl h)))) := hl.setO (zfh _ _)
 have hs1 : (σ.set id (rtO (zdH L (znl h)))).length = σ.length := by simp
 obtain ⟨S1,hS1⟩ : ∃ S1, σ.set id (rtO (zdH L (znl h))) = S1 := ⟨_,rfl⟩
 rw [hS1] at hK hs1 hl1 ⊢
 by_cases hz : zcI L (znl h) = 0
 ·rw [if_pos hz,hz] at hK
  rw [hz]
  (repeat' first | refine gq2 (show ((0 : Int) == 0) = true from rfl) ?_ | with_reducible first | exact ⟨⟩ | refine zh ?_ | fail)
  refine zdc hs1 ?_ hl1 ?_
  ·simp [zdh,dmT,dm,dm1,zca,zbv,zeB]
  ·exact hK
 ·have hq : (zcI L (znl h) == 0) = false := by simpa using hz
  rw [if_neg hz] at hK
  (repeat' first | refine gq2 hq ?_ | with_reducible first | exact ⟨⟩ | refine zh ?_ | fail)
  refine zdc hs1 ?_ hl1 ?_
  ·simp [zdh,dmT,dm,dm1,zca,zbv,zeB]
  ·exact hK
end Go.Proofs.YtncpaekiidpchaaGreat

/- Which proofs may be: the first error of all that is asked. No program in sight. -/
namespace Go.AW
def zeG : List Int → Int
 | [] => 0
 | e :: r => if e ≠ 0 then e else zeG r
theorem zjB (a b : List Int) : zeG (a ++ b) = if zeG a ≠ 0 then zeG a else zeG b := by
 induction a with
 | nil => simp [zeG]
 | cons e r ih =>
  simp only [List.cons_append,zeG,ih]
  by_cases h : e = 0
  ·simp [h]
  ·simp [h]
theorem fstE_appN {a b : List Int} (h : zeG a ≠ 0) : zeG (a ++ b) = zeG a := by rw [zjB,if_pos h]
def zgy (e x : Int) : Int := if e ≠ 0 then e else x
theorem thn_fst (e : Int) (l : List Int) : zgy e (zeG l) = zeG (e :: l) := rfl
def inE (n lo hi : Int) : Int := if n < lo ∨ n > hi then 100 else 0
def zof (n : Int) : Int := inE n 0 9007199254740992
def posE (n : Int) : Int := inE n 1 9007199254740992
def nameE (s : List UInt8) : Int := if zdA s = true then 0 else 61
def zmV (l : List zJ) : List Int := inE l.length 0 13 :: l.map fun s => zar s.key s.dig
def zfR (c : zfH) : Int := if ((c.seq = 0) ≠ (c.dig = 0)) ∨ (c.seq = 0 ∧ 0 < c.signs.length) then 100 else 0
def zkR (c : zfH) : List Int := zof c.seq :: zof c.dig :: zfR c :: zmV c.signs
def zkE (h : zcF) : List Int := [posE h.seq,zof h.prev,zof h.batch,zof h.root,zof h.state]
structure zaU where
 topic : List UInt8
 offset : Int
 rec_ : List UInt8
 headers : List zcF
 index : Int
 count : Int
 path : List Int
 cert : zfH
abbrev zgQ (p : zaU) : AV := .agg [.d (.str p.topic), .d (.int .i64 p.offset), .d (.slice (bcs p.rec_)), .d (.slice (zeM p.headers)), .d (.int .i64 p.index), .d (.int .i64 p.count), .d (.slice (zbO p.path)), .d (.int .i64 p.cert.seq), .d (.int .i64 p.cert.dig), .d (.slice (zaz p.cert.signs))]
abbrev certA (c : zfH) : AV := .agg [.d (.int .i64 c.seq), .d (.int .i64 c.dig), .d (.slice (zaz c.signs))]
def zfz (p : zaU) : List Int := [nameE p.topic,zof p.offset,inE p.rec_.length 0 64,inE p.headers.length 0 64]
def zct (p : zaU) : List Int := [zof p.index,inE p.count 0 16]
def ziu (p : zaU) : List Int := [inE p.index 0 (p.count - 1),inE p.path.length 0 8]
def zqc (p : zaU) : List Int := zfz p ++ ((p.headers.map zkE).flatten ++ (zct p ++ (ziu p ++ (p.path.map zof ++ zkR p.cert))))
def zex (p : zaU) : Int := zeG (zqc p)
theorem inE_0 {n lo hi : Int} (h : inE n lo hi = 0) : lo ≤ n ∧ n ≤ hi := by
 unfold inE at h
 split at h
 ·cases h
 ·omega
end Go.AW
