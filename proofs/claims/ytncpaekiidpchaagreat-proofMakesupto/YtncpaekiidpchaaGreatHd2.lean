/- Contracts: chains of headers, leaves, a header's digest, on both sides. -/
import Derived.Test.YtncpaekiidpchaaGreatHd1
import Derived.Test.YtncpaekiidpchaaGreatRc1
import Derived.Test.YtncpaekiidpchaaGreatMk5
import Derived.Test.YtncpaekiidpchaaGreatSpUtf
set_option linter.all false
set_option maxRecDepth 100000
namespace Go.Proofs.YtncpaekiidpchaaGreat
open Go.AW
theorem hdr_seq {h : zec} (hk : zbb h = 0) : 0 ≤ h.seq ∧ h.seq ≤ 9007199254740992 := ziy (zer.1 hk) h.seq (by simp [zqc])
theorem checkHF_ne {h : zec} (hk : (zbb h == 0) = false) : zko h = false := by
 cases e : zko h with
 | false => rfl
 | true => rw [zer.2 e] at hk; cases hk
def aheadF (l : List zec) : Nat → Option zec
 | 0 => none
 | k + 1 => l[k]?
theorem ziT {l : List zec} {k : Nat} {h : zec} (hx : l[k]? = some h) : aheadF l (k + 1) = some h := hx
theorem zuC {h : zec} (hk : zbb h = 0) : hdrBF h = zuD h := if_pos hk
theorem c_blMade {σ : List zf} {id m t : Nat} {L : List (List UInt8)} (hT : zcu σ id m t L) (hL : zjY L) {K : AV → List zf → Prop} (hK : K (.d (.bool true)) σ) : zL Tryz.prog zkG [.box id 0] σ K := by
 refine zj zpH.is rfl fun hl _ => zpH.goes ?_
 simp only [zpV,iN,bT,bF,eN]
 (repeat' first | refine gq1 ?_ | with_reducible first | exact ⟨⟩ | refine zh ?_ | fail)
 refine zlI hT hL.nd hL.len hL.each ?_
 (repeat' first | refine gq1 ?_ | with_reducible first | exact ⟨⟩ | refine zh ?_ | fail)
 (first | refine zao hl ?_ | refine zan hl ?_)
 exact hK
theorem gq39 {A P Q : Prop} (a : A) (h : Q) (e : A → P = Q := by intro a; simp -dsimp only [↓zcR, ↓zal, ↓zaM, ↓zcS, ↓zcN, ↓zcL, ↓zcO, ↓zcM, ↓zaR, ↓zaN, ↓zaS, ↓zaO, ↓zcP, ↓zaL, ↓zaT, ↓zaP, ↓zaU, ↓zaQ, ↓zcK, ↓zcQ, ↓zaK, ↓zaV, ↓zcI, ↓zcH, ↓zcJ,iN,bT,bF,eN, ↓zbI, ↓unC, ↓zQ, ↓zF, ↓zG, ↓zI, ↓zR, ↓zap, ↓zbp, ↓zab, ↓zaX, ↓zP, ↓zp, ↓zm, ↓zbg, ↓zi, ↓zY, ↓zB, ↓zas, ↓zaw, ↓ze, ↓zC, ↓zr, ↓zt, ↓zad, ↓zbL, ↓zbY, ↓zaa, ↓zaj, ↓zau, ↓zaB, ↓zaD, ↓zl, ↓zZ, ↓zH, ↓zu, ↓zS,zcd,zaI,zaH,unA,zce,bnd,zcn,zX,zV,zcp,dm,dm1,zD,zag,zcy,zcx,zU,Q0,Q1,Q2,Q3,Q4,Q5,zO,zq,zw,zM,zE,Q6,Q7,Q8,Q9,Q10,Q11,Q12,Q13,Q14,Nat.reduceAdd,Q15,Int.reduceToNat,Q16,Q17,Q18,Q19,Q20,reduceIte,Q21,Q22,zx,rep,zT,zcv,toD,zW,Q23,Q24,Q25,Q26,Q27,Q28,Nat.reduceLeDiff,Q29,Nat.reduceSub,Q30,Q31,Q32,sc,Q33,Q34,Q35,Q36,Q37,Q26,Q38,Q39,zel,zei,zef,zem,zbt,zej,zeg,zek,zeh,zbs,zbu,zen,zeo,Bool.not_true,Bool.not_false,List.length_map,Option.isSome_some,a]; rfl) : P := (e a).mpr h
theorem c_blChain {σ : List zf} {id m t : Nat} {L : List (List UInt8)} {l : List zec} (hT : zcu σ id m t L) (hL : zjY L) (hl0 : l.length ≤ 1073741824) {K : AV → List zf → Prop} (hK : K (.d (.bool (ztv L l))) σ) :
  zL Tryz.prog zjC [.box id 0, .d (.slice (zde l))] σ K := by
 refine zj znF.is rfl fun hl _ => znF.goes ?_
 have fin : ∀ z,ztv L l = z → K (.d (.bool z)) σ := fun z h => h ▸ hK
 clear hK
 have hlen : (zde l).length = l.length := List.length_map ..
 simp only [zog,iN,bT,bF,eN]
 (repeat' first | refine gq1 ?_ | with_reducible first | exact ⟨⟩ | refine zh ?_ | fail)
 refine c_blMade hT hL ?_
 (repeat' first | refine gq2 hlen ?_ | with_reducible first | exact ⟨⟩ | refine zh ?_ | fail)
 refine zK l.length (fun k vs s => vs = [.d (.int .i64 k)] ∧ (∃ T,s = σ ++ T) ∧ ztv L l = zrx L (aheadF l k) (l.drop k) ∧ ∀ q,aheadF l k = some q → zbb q = 0) ⟨rfl,⟨[],by simp⟩,rfl,by simp [aheadF]⟩ ?_
 rintro k vs s hk ⟨rfl,⟨T,rfl⟩,hpf,hq⟩
 by_cases hlt : k < l.length
 ·have hd : decide ((k : Int) < (l.length : Int)) = true := by simp; omega
  have hx : l[k]? = some l[k] := by simp [hlt]
  have hgx := zaf (f := hdrD) hx
  obtain ⟨h,hhe⟩ : ∃ h,l[k] = h := ⟨_,rfl⟩
  rw [hhe] at hx hgx
  rw [chain_drop hx] at hpf
  (repeat' first | refine gq2 (zd hd (zd hgx hlen)) ?_ | with_reducible first | exact ⟨⟩ | refine zh ?_ | fail)
  refine c_blCheck (h := h) ?_
  cases hc : (zbb h == 0)
  ·have hc' : (zbb h != 0) = true := by simpa using hc
   (repeat' first | refine gq2 hc' ?_ | with_reducible first | exact ⟨⟩ | refine zh ?_ | fail)
   (first | refine zao hl ?_ | refine zan hl ?_)
   exact fin _ (by rw [hpf,checkHF_ne hc]; rfl)
  have hc0 : zbb h = 0 := by simpa using hc
  have hhs := hdr_seq hc0
  rw [zer.1 hc0,Bool.true_and] at hpf
  rw [hc0]
  cases k with
  | zero =>
   (repeat' first | refine gq2 (zd (show ((0 : Int) != 0) = false from rfl) (zd (show (((0 : Nat) : Int) == 0) = true from rfl) (wki 0 (by omega)))) ?_ | with_reducible first | exact ⟨⟩ | refine zh ?_ | fail)
   refine zav.next hlt ⟨rfl,⟨_,rfl⟩, ?_, ?_⟩
   ·rw [hpf]; simp [aheadF,linkF,hx]
   ·intro q hq2
    rw [ziT hx] at hq2
    cases hq2; exact hc0
  | succ j =>
   have hz : (((j + 1 : Nat) : Int) == 0) = false := by simp; omega
   have hy : l[j]? = some l[j] := by simp [show j < l.length by omega]
   have hgy := zaf (f := hdrD) hy
   obtain ⟨q,hqe⟩ : ∃ q,l[j] = q := ⟨_,rfl⟩
   rw [hqe] at hy hgy
   have hqc := hq q (ziT hy)
   have hqs := hdr_seq hqc
   have hw1 : IntKind.i64.wrap (((j + 1 : Nat) : Int) - 1) = (j : Int) := by rw [zai (by omega) (by omega)]; omega
   have hw2 : IntKind.i64.wrap (h.seq - 1) = h.seq - 1 := zai (by omega) (by omega)
   have hw3 := wki (j + 1) (by omega)
   rw [ziT hy] at hpf
   (repeat' first | refine gq2 (zd (show ((0 : Int) != 0) = false from rfl) (zd hz (zd hw1 (zd hgy hlen)))) ?_ | with_reducible first | exact ⟨⟩ | refine zh ?_ | fail)
   refine c_blBytes (h := q) ?_
   rw [zuC hqc,hqc]
   (repeat' first | refine gq1 ?_ | with_reducible first | exact ⟨⟩ | refine zh ?_ | fail)
   refine zmS (hT.app _) ?_
   cases hlk : zdD L (zuD q) with
   | none =>
    (repeat' first | refine gq7 ?_ | with_reducible first | exact ⟨⟩ | refine zh ?_ | fail)
    (first | refine zao hl ?_ | refine zan hl ?_)
    exact fin _ (by rw [hpf]; simp [linkF,hlk])
   | some i =>
    simp only [linkF,hlk] at hpf
    simp only [zni]
    cases h1 : (h.prev == ((i + 1 : Nat) : Int))
    ·have h1' : (h.prev != ((i + 1 : Nat) : Int)) = true := by simpa using h1
     (repeat' first | refine gq39 (zd hgx h1') ?_ | with_reducible first | exact ⟨⟩ | refine zh ?_ | fail)
     (first | refine zao hl ?_ | refine zan hl ?_)
     exact fin _ (by rw [hpf,h1]; rfl)
    have h1' : (h.prev != ((i + 1 : Nat) : Int)) = false := by simpa using h1
    have e2 : (h.seq - 1 != q.seq) = !(h.seq == q.seq + 1) := by
     rw [Bool.eq_iff_iff]
     simp only [bne_iff_ne,Bool.not_eq_true',beq_eq_false_iff_ne,ne_eq]
     omega
    cases h2 : (h.seq == q.seq + 1)
    ·rw [h2] at e2
     (repeat' first | refine gq39 (zd hgx (zd hgy (zd hw1 (zd hw2 (zd h1' e2))))) ?_ | with_reducible first | exact ⟨⟩ | refine zh ?_ | fail)
     (first | refine zao hl ?_ | refine zan hl ?_)
     exact fin _ (by rw [hpf,h1,h2]; rfl)
    rw [h2] at e2
    (repeat' first | refine gq39 (zd hgx (zd hgy (zd hw1 (zd hw2 (zd h1' (zd e2 hw3)))))) ?_ | with_reducible first | exact ⟨⟩ | refine zh ?_ | fail)
    refine zav.next hlt ⟨rfl,⟨_,rfl⟩, ?_, ?_⟩
    ·rw [hpf,h1,h2,ziT hx]; rfl
    ·intro q2 hq2
     rw [ziT hx] at hq2
     cases hq2; exact hc0
 ·have hd : decide ((k : Int) < (l.length : Int)) = false := by simp; omega
  rw [List.drop_eq_nil_of_le (by omega)] at hpf
  (repeat' first | refine gq2 (zd hd hlen) ?_ | with_reducible first | exact ⟨⟩ | refine zh ?_ | fail)
  (first | refine zao hl ?_ | refine zan hl ?_)
  exact fin _ hpf
theorem ztC {σ : List zf} {l : List zbw} (hl0 : l.length ≤ 1073741824) (hp : ∀ p ∈ l,zjk p) {K : AV → List zf → Prop} (hK : K (.d (.slice (zcU (l.map zaF)))) σ) : zL Tryz.prog zhM [.d (.slice (zch l))] σ K := by
 refine zj zpw.is rfl fun hl _ => zpw.goes ?_
 have hlen : (zch l).length = l.length := List.length_map ..
 simp only [zpK,iN,bT,bF,eN]
 refine zba l.length (fun k vs s => vs = [.own σ.length (zcU ((l.take k).map zaF)), .d (.int .i64 k)] ∧ ∃ T,s = σ ++ (.tok 1 k :: T)) (.tok 0 [] 1 rfl (by simp) (.refl _ _)) ⟨by simp, [],rfl⟩ ?_
 rintro k vs s hk ⟨rfl,T,rfl⟩
 by_cases hlt : k < l.length
 ·have hd : decide ((k : Int) < (l.length : Int)) = true := by simp; omega
  have hx : l[k]? = some l[k] := by simp [hlt]
  have hpx := hp _ (List.getElem_mem hlt)
  have hgx := zaf (f := zeT) hx
  obtain ⟨p,hpe⟩ : ∃ p,l[k] = p := ⟨_,rfl⟩
  rw [hpe] at hx hgx hpx
  have hnx : zcU ((l.take k).map zaF) ++ [[D.slice (bcs (zaF p))]] = zcU ((l.take (k + 1)).map zaF) := by
   rw [List.take_add_one,hx]; simp
  have hk2 : (zcU ((l.take k).map zaF)).length = k := by simp; omega
  (repeat' first | refine gq2 (zd hd (zd hgx hlen)) ?_ | with_reducible first | exact ⟨⟩ | refine zh ?_ | fail)
  refine c_r7Placed hpx ?_
  (repeat' first | refine gq2 (zd hk2 (zd hnx (wki k (by omega)))) ?_ | with_reducible first | exact ⟨⟩ | refine zh ?_ | fail)
  exact zav.next hlt ⟨rfl,_,rfl⟩
 ·have hd : decide ((k : Int) < (l.length : Int)) = false := by simp; omega
  rw [List.take_of_length_le (by omega)]
  (repeat' first | refine gq2 (zd hd hlen) ?_ | with_reducible first | exact ⟨⟩ | refine zh ?_ | fail)
  (first | refine zao hl ?_ | refine zan hl ?_)
  exact hK
theorem c_blLeaves {σ : List zf} {l : List zbw} (hl0 : l.length ≤ 1073741824) (hp : ∀ p ∈ l,zjk p) {K : AV → List zf → Prop} (hK : K (.d (.slice (zcU (l.map zaF)))) σ) : zL Tryz.prog zik [.d (.slice (zch l))] σ K := by
 refine zj zmi.is rfl fun hl _ => zmi.goes ?_
 have hlen : (zch l).length = l.length := List.length_map ..
 simp only [zmw,iN,bT,bF,eN]
 (repeat' first | refine gq2 hlen ?_ | with_reducible first | exact ⟨⟩ | refine zh ?_ | fail)
 refine zba l.length (fun k vs s => vs = [.own σ.length (zcU ((l.take k).map zaF)), .d (.int .i64 k)] ∧ ∃ T,s = σ ++ (.tok 1 k :: T)) (.tok 0 [] 1 rfl (by simp) (.refl _ _)) ⟨by simp, [],rfl⟩ ?_
 rintro k vs s hk ⟨rfl,T,rfl⟩
 by_cases hlt : k < l.length
 ·have hd : decide ((k : Int) < (l.length : Int)) = true := by simp; omega
  have hx : l[k]? = some l[k] := by simp [hlt]
  have hpx := hp _ (List.getElem_mem hlt)
  have hgx := zaf (f := zeT) hx
  obtain ⟨p,hpe⟩ : ∃ p,l[k] = p := ⟨_,rfl⟩
  rw [hpe] at hx hgx hpx
  have hnx : zcU ((l.take k).map zaF) ++ [[D.slice (bcs (zaF p))]] = zcU ((l.take (k + 1)).map zaF) := by
   rw [List.take_add_one,hx]; simp
  have hk2 : (zcU ((l.take k).map zaF)).length = k := by simp; omega
  (repeat' first | refine gq2 (zd hd (zd hgx hlen)) ?_ | with_reducible first | exact ⟨⟩ | refine zh ?_ | fail)
  refine ztx hpx ?_
  (repeat' first | refine gq2 (zd hk2 (zd hnx (wki k (by omega)))) ?_ | with_reducible first | exact ⟨⟩ | refine zh ?_ | fail)
  exact zav.next hlt ⟨rfl,_,rfl⟩
 ·have hd : decide ((k : Int) < (l.length : Int)) = false := by simp; omega
  rw [List.take_of_length_le (by omega)]
  (repeat' first | refine gq2 (zd hd hlen) ?_ | with_reducible first | exact ⟨⟩ | refine zh ?_ | fail)
  (first | refine zao hl ?_ | refine zan hl ?_)
  exact hK
def hdigE (L : List (List UInt8)) (h : zec) : Int := if zbb h ≠ 0 then zbb h else if zed L (zuD h) = 0 then 6 else 0
def zsl (L : List (List UInt8)) (h : zec) : Int := if zbb h ≠ 0 then 0 else zed L (zuD h)
def zgh (L : List (List UInt8)) (h : zec) : List (List UInt8) := if zbb h ≠ 0 then L else zfk L (zuD h)
theorem zpe {σ : List zf} {id : Nat} {L : List (List UInt8)} {h : zec} (hT : σ[id]? = some (rtO L)) (hL : L.length ≤ 1048576) {K : AV → List zf → Prop}
  (hK : K (.tup [.d (.int .i64 (zsl L h)), .d (.int .i64 (hdigE L h))]) (σ.set id (rtO (zgh L h)))) : zL Tryz.prog zhN [.box id 0,hdrA h] σ K := by
 refine zj zpx.is rfl fun hl _ => zpx.goes ?_
 simp only [zpL,iN,bT,bF,eN,hdrA]
 (repeat' first | refine gq1 ?_ | with_reducible first | exact ⟨⟩ | refine zh ?_ | fail)
 refine c_hrBytes (h := h) ?_
 cases hc : (zbb h == 0)
 ·have hc' : (zbb h != 0) = true := by simpa using hc
  have hc0 : zbb h ≠ 0 := by simpa using hc
  simp only [hdigE,zsl,zgh,if_pos hc0] at hK
  rw [zbD hT] at hK
  (repeat' first | refine gq2 hc' ?_ | with_reducible first | exact ⟨⟩ | refine zh ?_ | fail)
  (first | refine zao hl ?_ | refine zan hl ?_)
  exact hK
 have hc0 : zbb h = 0 := by simpa using hc
 have hbl := hdrB_len (zer.1 hc0)
 simp only [hdigE,zsl,zgh,hc0,ne_eq,not_true_eq_false,if_false] at hK
 rw [zuC hc0,hc0]
 (repeat' first | refine gq2 (show ((0 : Int) != 0) = false from rfl) ?_ | with_reducible first | exact ⟨⟩ | refine zh ?_ | fail)
 refine zjI (zg hT) (by omega) hL ?_
 rw [zbE hT]
 have hl1 : zfi σ.length (σ.set id (rtO (zfk L (zuD h)))) := hl.setO (zew _ _)
 have hs1 : (σ.set id (rtO (zfk L (zuD h)))).length = σ.length := by simp
 obtain ⟨S1,hS1⟩ : ∃ S1, σ.set id (rtO (zfk L (zuD h))) = S1 := ⟨_,rfl⟩
 rw [hS1] at hK hs1 hl1 ⊢
 by_cases hz : zed L (zuD h) = 0
 ·rw [if_pos hz,hz] at hK
  rw [hz]
  (repeat' first | refine gq2 (show ((0 : Int) == 0) = true from rfl) ?_ | with_reducible first | exact ⟨⟩ | refine zh ?_ | fail)
  refine zda hs1 ?_ hl1 ?_
  ·simp [zdj,dmT,dm,dm1,zbV,zby,zea]
  ·exact hK
 ·have hq : (zed L (zuD h) == 0) = false := by simpa using hz
  rw [if_neg hz] at hK
  (repeat' first | refine gq2 hq ?_ | with_reducible first | exact ⟨⟩ | refine zh ?_ | fail)
  refine zda hs1 ?_ hl1 ?_
  ·simp [zdj,dmT,dm,dm1,zbV,zby,zea]
  ·exact hK
end Go.Proofs.YtncpaekiidpchaaGreat

/- Which proofs may be: the first error of all that is asked. No program in sight. -/
namespace Go.AW
def zeO : List Int → Int
 | [] => 0
 | e :: r => if e ≠ 0 then e else zeO r
theorem zjF (a b : List Int) : zeO (a ++ b) = if zeO a ≠ 0 then zeO a else zeO b := by
 induction a with
 | nil => simp [zeO]
 | cons e r ih =>
  simp only [List.cons_append,zeO,ih]
  by_cases h : e = 0
  ·simp [h]
  ·simp [h]
theorem fstE_appN {a b : List Int} (h : zeO a ≠ 0) : zeO (a ++ b) = zeO a := by rw [zjF,if_pos h]
def zgO (e x : Int) : Int := if e ≠ 0 then e else x
theorem thn_fst (e : Int) (l : List Int) : zgO e (zeO l) = zeO (e :: l) := rfl
def inE (n lo hi : Int) : Int := if n < lo ∨ n > hi then 100 else 0
def zok (n : Int) : Int := inE n 0 9007199254740992
def posE (n : Int) : Int := inE n 1 9007199254740992
def nameE (s : List UInt8) : Int := if zfj s = true then 0 else 61
def zqk (l : List zae) : List Int := inE l.length 0 13 :: l.map fun s => zay s.key s.dig
def zht (c : zfF) : Int := if ((c.seq = 0) ≠ (c.dig = 0)) ∨ (c.seq = 0 ∧ 0 < c.signs.length) then 100 else 0
def zmR (c : zfF) : List Int := zok c.seq :: zok c.dig :: zht c :: zqk c.signs
def zlX (h : zec) : List Int := [posE h.seq,zok h.prev,zok h.batch,zok h.root,zok h.state]
structure zbe where
 topic : List UInt8
 offset : Int
 rec_ : List UInt8
 headers : List zec
 index : Int
 count : Int
 path : List Int
 cert : zfF
abbrev zdv (p : zbe) : AV := .agg [.d (.str p.topic), .d (.int .i64 p.offset), .d (.slice (bcs p.rec_)), .d (.slice (zde p.headers)), .d (.int .i64 p.index), .d (.int .i64 p.count), .d (.slice (zbC p.path)), .d (.int .i64 p.cert.seq), .d (.int .i64 p.cert.dig), .d (.slice (zaz p.cert.signs))]
abbrev certA (c : zfF) : AV := .agg [.d (.int .i64 c.seq), .d (.int .i64 c.dig), .d (.slice (zaz c.signs))]
def zgU (p : zbe) : List Int := [nameE p.topic,zok p.offset,inE p.rec_.length 0 64,inE p.headers.length 0 64]
def zdb (p : zbe) : List Int := [zok p.index,inE p.count 0 16]
def zkv (p : zbe) : List Int := [inE p.index 0 (p.count - 1),inE p.path.length 0 8]
def zuw (p : zbe) : List Int := zgU p ++ ((p.headers.map zlX).flatten ++ (zdb p ++ (zkv p ++ (p.path.map zok ++ zmR p.cert))))
def zfe (p : zbe) : Int := zeO (zuw p)
theorem inE_0 {n lo hi : Int} (h : inE n lo hi = 0) : lo ≤ n ∧ n ≤ hi := by
 unfold inE at h
 split at h
 ·cases h
 ·omega
end Go.AW
