/- Contracts: chains of headers, leaves, a header's digest, on both sides. -/
import Derived.Test.YtncpaekiidpchaaGreatHd1
import Derived.Test.YtncpaekiidpchaaGreatRq2
import Derived.Test.YtncpaekiidpchaaGreatMk5
import Derived.Test.YtncpaekiidpchaaGreatSpUtf
set_option linter.all false
set_option maxRecDepth 100000
namespace Go.Proofs.YtncpaekiidpchaaGreat
open Go.AW
theorem hdr_seq {h : zcJ} (hk : zaH h = 0) : 0 ≤ h.seq ∧ h.seq ≤ 9007199254740992 := zdI (zdo.1 hk) h.seq (by simp [zji])
theorem checkHF_ne {h : zcJ} (hk : (zaH h == 0) = false) : zfH h = false := by
 cases e : zfH h with
 | false => rfl
 | true => rw [zdo.2 e] at hk; cases hk
def aheadF (l : List zcJ) : Nat → Option zcJ
 | 0 => none
 | k + 1 => l[k]?
theorem ziW {l : List zcJ} {k : Nat} {h : zcJ} (hx : l[k]? = some h) : aheadF l (k + 1) = some h := hx
theorem zuh {h : zcJ} (hk : zaH h = 0) : hdrBF h = zlG h := if_pos hk
theorem c_blMade {σ : List zg} {id m t : Nat} {L : List (List UInt8)} (hT : zcm σ id m t L) (hL : zkc L) {K : KT} (hK : K (.d (.bool true)) σ) : zE Tryz.prog zkI [.box id 0] σ K := by
 refine zi zpG.is rfl fun hl _ => zpG.goes ?_
 simp only [zpV,iN,bT,bF,eN]
 (repeat' first | refine gq1 ?_ | with_reducible first | exact ⟨⟩ | refine zh ?_ | fail)
 refine zlJ hT hL.nd hL.len hL.each ?_
 (repeat' first | refine gq1 ?_ | with_reducible first | exact ⟨⟩ | refine zh ?_ | fail)
 (first | refine zar hl ?_ | refine zaq hl ?_)
 exact hK
theorem gq32 {A P Q : Prop} (a : A) (h : Q) (e : A → P = Q := by intro a; simp -dsimp only [↓zes, ↓zaw, ↓zbf, ↓zet, ↓zen, ↓zel, ↓zeo, ↓zem, ↓zbk, ↓zbg, ↓zbl, ↓zbh, ↓zep, ↓zbe, ↓zbm, ↓zbi, ↓zbn, ↓zbj, ↓zek, ↓zeq, ↓zbd, ↓zbo, ↓zef, ↓zee, ↓zej,iN,bT,bF,eN, ↓zcS, ↓unC, ↓zU, ↓zK, ↓zL, ↓zN, ↓zZ, ↓zax, ↓zbQ, ↓zaf, ↓zbp, ↓zP, ↓zq, ↓zo, ↓zbu, ↓zl, ↓zah, ↓zI, ↓zaD, ↓zaG, ↓ze, ↓zC, ↓zt, ↓zw, ↓zan, ↓zcC, ↓zcV, ↓zal, ↓zat, ↓zaE, ↓zaN, ↓zaS, ↓zu, ↓zai, ↓zM, ↓zA, ↓zaa,zcZ,zba,zaV,unA,zdg,bnd,zdy,zad,zS,zdz,dm,dm1,zB,zak,zdQ,zdP,zR,Q0,Q1,Q2,Q3,Q4,Q5,zQ,zr,zy,zO,zH,Q6,Q7,Q8,Q9,Q10,Q11,Q12,Q13,Q14,Nat.reduceAdd,Q15,Int.reduceToNat,Q16,Q17,Q18,Q19,Q20,reduceIte,Q21,Q22,zD,rep,zV,zdK,toD,zac,Q23,Q24,Q25,Q26,Q27,Q28,Nat.reduceLeDiff,Q29,Nat.reduceSub,Q30,Q31,Q32,sc,Q33,Q34,Q35,Q36,Q37,Q26,Q38,Q39,zgF,zgC,zgz,zgG,zcb,zgD,zgA,zgE,zgB,zca,zcc,zgK,zgL,Bool.not_true,Bool.not_false,List.length_map,Option.isSome_some,a]; rfl) : P := (e a).mpr h
theorem c_blChain {σ : List zg} {id m t : Nat} {L : List (List UInt8)} {l : List zcJ} (hT : zcm σ id m t L) (hL : zkc L) (hl0 : l.length ≤ 1073741824) {K : KT} (hK : K (.d (.bool (ztm L l))) σ) :
  zE Tryz.prog zjB [.box id 0, .d (.slice (zeR l))] σ K := by
 refine zi znJ.is rfl fun hl _ => znJ.goes ?_
 have fin : ∀ z,ztm L l = z → K (.d (.bool z)) σ := fun z h => h ▸ hK
 clear hK
 have hlen : (zeR l).length = l.length := List.length_map ..
 simp only [zog,iN,bT,bF,eN]
 (repeat' first | refine gq1 ?_ | with_reducible first | exact ⟨⟩ | refine zh ?_ | fail)
 refine c_blMade hT hL ?_
 (repeat' first | refine gq2 hlen ?_ | with_reducible first | exact ⟨⟩ | refine zh ?_ | fail)
 refine zG l.length (fun k vs s => vs = [.d (.int .i64 k)] ∧ (∃ T,s = σ ++ T) ∧ ztm L l = zkY L (aheadF l k) (l.drop k) ∧ ∀ q,aheadF l k = some q → zaH q = 0) ⟨rfl,⟨[],by simp⟩,rfl,by simp [aheadF]⟩ ?_
 rintro k vs s hk ⟨rfl,⟨T,rfl⟩,hpf,hq⟩
 by_cases hlt : k < l.length
 ·have hd : decide ((k : Int) < (l.length : Int)) = true := by simp; omega
  have hx : l[k]? = some l[k] := by simp [hlt]
  have hgx := zae (f := hdrD) hx
  obtain ⟨h,hhe⟩ : ∃ h,l[k] = h := ⟨_,rfl⟩
  rw [hhe] at hx hgx
  rw [chain_drop hx] at hpf
  (repeat' first | refine gq2 (zd hd (zd hgx hlen)) ?_ | with_reducible first | exact ⟨⟩ | refine zh ?_ | fail)
  refine c_blCheck (h := h) ?_
  cases hc : (zaH h == 0)
  ·have hc' : (zaH h != 0) = true := by simpa using hc
   (repeat' first | refine gq2 hc' ?_ | with_reducible first | exact ⟨⟩ | refine zh ?_ | fail)
   (first | refine zar hl ?_ | refine zaq hl ?_)
   exact fin _ (by rw [hpf,checkHF_ne hc]; rfl)
  have hc0 : zaH h = 0 := by simpa using hc
  have hhs := hdr_seq hc0
  rw [zdo.1 hc0,Bool.true_and] at hpf
  rw [hc0]
  cases k with
  | zero =>
   (repeat' first | refine gq2 (zd (show ((0 : Int) != 0) = false from rfl) (zd (show (((0 : Nat) : Int) == 0) = true from rfl) (wki 0 (by omega)))) ?_ | with_reducible first | exact ⟨⟩ | refine zh ?_ | fail)
   refine zav.next hlt ⟨rfl,⟨_,rfl⟩, ?_, ?_⟩
   ·rw [hpf]; simp [aheadF,linkF,hx]
   ·intro q hq2
    rw [ziW hx] at hq2
    cases hq2; exact hc0
  | succ j =>
   have hz : (((j + 1 : Nat) : Int) == 0) = false := by simp; omega
   have hy : l[j]? = some l[j] := by simp [show j < l.length by omega]
   have hgy := zae (f := hdrD) hy
   obtain ⟨q,hqe⟩ : ∃ q,l[j] = q := ⟨_,rfl⟩
   rw [hqe] at hy hgy
   have hqc := hq q (ziW hy)
   have hqs := hdr_seq hqc
   have hw1 : IntKind.i64.wrap (((j + 1 : Nat) : Int) - 1) = (j : Int) := by rw [zY (by omega) (by omega)]; omega
   have hw2 : IntKind.i64.wrap (h.seq - 1) = h.seq - 1 := zY (by omega) (by omega)
   have hw3 := wki (j + 1) (by omega)
   rw [ziW hy] at hpf
   (repeat' first | refine gq2 (zd (show ((0 : Int) != 0) = false from rfl) (zd hz (zd hw1 (zd hgy hlen)))) ?_ | with_reducible first | exact ⟨⟩ | refine zh ?_ | fail)
   refine c_blBytes (h := q) ?_
   rw [zuh hqc,hqc]
   (repeat' first | refine gq1 ?_ | with_reducible first | exact ⟨⟩ | refine zh ?_ | fail)
   refine zmV (hT.app _) ?_
   cases hlk : zbP L (zlG q) with
   | none =>
    (repeat' first | refine gq7 ?_ | with_reducible first | exact ⟨⟩ | refine zh ?_ | fail)
    (first | refine zar hl ?_ | refine zaq hl ?_)
    exact fin _ (by rw [hpf]; simp [linkF,hlk])
   | some i =>
    simp only [linkF,hlk] at hpf
    simp only [zgu]
    cases h1 : (h.prev == ((i + 1 : Nat) : Int))
    ·have h1' : (h.prev != ((i + 1 : Nat) : Int)) = true := by simpa using h1
     (repeat' first | refine gq32 (zd hgx h1') ?_ | with_reducible first | exact ⟨⟩ | refine zh ?_ | fail)
     (first | refine zar hl ?_ | refine zaq hl ?_)
     exact fin _ (by rw [hpf,h1]; rfl)
    have h1' : (h.prev != ((i + 1 : Nat) : Int)) = false := by simpa using h1
    have e2 : (h.seq - 1 != q.seq) = !(h.seq == q.seq + 1) := by
     rw [Bool.eq_iff_iff]
     simp only [bne_iff_ne,Bool.not_eq_true',beq_eq_false_iff_ne,ne_eq]
     omega
    cases h2 : (h.seq == q.seq + 1)
    ·rw [h2] at e2
     (repeat' first | refine gq32 (zd hgx (zd hgy (zd hw1 (zd hw2 (zd h1' e2))))) ?_ | with_reducible first | exact ⟨⟩ | refine zh ?_ | fail)
     (first | refine zar hl ?_ | refine zaq hl ?_)
     exact fin _ (by rw [hpf,h1,h2]; rfl)
    rw [h2] at e2
    (repeat' first | refine gq32 (zd hgx (zd hgy (zd hw1 (zd hw2 (zd h1' (zd e2 hw3)))))) ?_ | with_reducible first | exact ⟨⟩ | refine zh ?_ | fail)
    refine zav.next hlt ⟨rfl,⟨_,rfl⟩, ?_, ?_⟩
    ·rw [hpf,h1,h2,ziW hx]; rfl
    ·intro q2 hq2
     rw [ziW hx] at hq2
     cases hq2; exact hc0
 ·have hd : decide ((k : Int) < (l.length : Int)) = false := by simp; omega
  rw [List.drop_eq_nil_of_le (by omega)] at hpf
  (repeat' first | refine gq2 (zd hd hlen) ?_ | with_reducible first | exact ⟨⟩ | refine zh ?_ | fail)
  (first | refine zar hl ?_ | refine zaq hl ?_)
  exact fin _ hpf
theorem c_r7Leaves {σ : List zg} {l : List zaU} (hl0 : l.length ≤ 1073741824) (hp : ∀ p ∈ l,zjk p) {K : KT} (hK : K (.d (.slice (zdw (l.map zao)))) σ) : zE Tryz.prog zkB [.d (.slice (zco l))] σ K := by
 refine zi zpv.is rfl fun hl _ => zpv.goes ?_
 have hlen : (zco l).length = l.length := List.length_map ..
 simp only [zpK,iN,bT,bF,eN]
 refine zaK l.length (fun k vs s => vs = [.own σ.length (zdw ((l.take k).map zao)), .d (.int .i64 k)] ∧ ∃ T,s = σ ++ (.tok 1 k :: T)) (.tok 0 [] 1 rfl (by simp) (.refl _ _)) ⟨by simp, [],rfl⟩ ?_
 rintro k vs s hk ⟨rfl,T,rfl⟩
 by_cases hlt : k < l.length
 ·have hd : decide ((k : Int) < (l.length : Int)) = true := by simp; omega
  have hx : l[k]? = some l[k] := by simp [hlt]
  have hpx := hp _ (List.getElem_mem hlt)
  have hgx := zae (f := zmB) hx
  obtain ⟨p,hpe⟩ : ∃ p,l[k] = p := ⟨_,rfl⟩
  rw [hpe] at hx hgx hpx
  have hnx : zdw ((l.take k).map zao) ++ [[D.slice (bcs (zao p))]] = zdw ((l.take (k + 1)).map zao) := by
   rw [List.take_add_one,hx]; simp
  have hk2 : (zdw ((l.take k).map zao)).length = k := by simp; omega
  (repeat' first | refine gq2 (zd hd (zd hgx hlen)) ?_ | with_reducible first | exact ⟨⟩ | refine zh ?_ | fail)
  refine c_r7Placed hpx ?_
  (repeat' first | refine gq2 (zd hk2 (zd hnx (wki k (by omega)))) ?_ | with_reducible first | exact ⟨⟩ | refine zh ?_ | fail)
  exact zav.next hlt ⟨rfl,_,rfl⟩
 ·have hd : decide ((k : Int) < (l.length : Int)) = false := by simp; omega
  rw [List.take_of_length_le (by omega)]
  (repeat' first | refine gq2 (zd hd hlen) ?_ | with_reducible first | exact ⟨⟩ | refine zh ?_ | fail)
  (first | refine zar hl ?_ | refine zaq hl ?_)
  exact hK
theorem c_blLeaves {σ : List zg} {l : List zaU} (hl0 : l.length ≤ 1073741824) (hp : ∀ p ∈ l,zjk p) {K : KT} (hK : K (.d (.slice (zdw (l.map zao)))) σ) : zE Tryz.prog zik [.d (.slice (zco l))] σ K := by
 refine zi zmi.is rfl fun hl _ => zmi.goes ?_
 have hlen : (zco l).length = l.length := List.length_map ..
 simp only [zmw,iN,bT,bF,eN]
 (repeat' first | refine gq2 hlen ?_ | with_reducible first | exact ⟨⟩ | refine zh ?_ | fail)
 refine zaK l.length (fun k vs s => vs = [.own σ.length (zdw ((l.take k).map zao)), .d (.int .i64 k)] ∧ ∃ T,s = σ ++ (.tok 1 k :: T)) (.tok 0 [] 1 rfl (by simp) (.refl _ _)) ⟨by simp, [],rfl⟩ ?_
 rintro k vs s hk ⟨rfl,T,rfl⟩
 by_cases hlt : k < l.length
 ·have hd : decide ((k : Int) < (l.length : Int)) = true := by simp; omega
  have hx : l[k]? = some l[k] := by simp [hlt]
  have hpx := hp _ (List.getElem_mem hlt)
  have hgx := zae (f := zmB) hx
  obtain ⟨p,hpe⟩ : ∃ p,l[k] = p := ⟨_,rfl⟩
  rw [hpe] at hx hgx hpx
  have hnx : zdw ((l.take k).map zao) ++ [[D.slice (bcs (zao p))]] = zdw ((l.take (k + 1)).map zao) := by
   rw [List.take_add_one,hx]; simp
  have hk2 : (zdw ((l.take k).map zao)).length = k := by simp; omega
  (repeat' first | refine gq2 (zd hd (zd hgx hlen)) ?_ | with_reducible first | exact ⟨⟩ | refine zh ?_ | fail)
  refine zto hpx ?_
  (repeat' first | refine gq2 (zd hk2 (zd hnx (wki k (by omega)))) ?_ | with_reducible first | exact ⟨⟩ | refine zh ?_ | fail)
  exact zav.next hlt ⟨rfl,_,rfl⟩
 ·have hd : decide ((k : Int) < (l.length : Int)) = false := by simp; omega
  rw [List.take_of_length_le (by omega)]
  (repeat' first | refine gq2 (zd hd hlen) ?_ | with_reducible first | exact ⟨⟩ | refine zh ?_ | fail)
  (first | refine zar hl ?_ | refine zaq hl ?_)
  exact hK
def hdigE (L : List (List UInt8)) (h : zcJ) : Int := if zaH h ≠ 0 then zaH h else if zcK L (zlG h) = 0 then 6 else 0
def ziD (L : List (List UInt8)) (h : zcJ) : Int := if zaH h ≠ 0 then 0 else zcK L (zlG h)
def zcQ (L : List (List UInt8)) (h : zcJ) : List (List UInt8) := if zaH h ≠ 0 then L else zdD L (zlG h)
theorem zoY {σ : List zg} {id : Nat} {L : List (List UInt8)} {h : zcJ} (hT : σ[id]? = some (rtO L)) (hL : L.length ≤ 1048576) {K : KT}
  (hK : K (.tup [.d (.int .i64 (ziD L h)), .d (.int .i64 (hdigE L h))]) (σ.set id (rtO (zcQ L h)))) : zE Tryz.prog zhK [.box id 0,hdrA h] σ K := by
 refine zi zpw.is rfl fun hl _ => zpw.goes ?_
 simp only [zpL,iN,bT,bF,eN,hdrA]
 (repeat' first | refine gq1 ?_ | with_reducible first | exact ⟨⟩ | refine zh ?_ | fail)
 refine c_hrBytes (h := h) ?_
 cases hc : (zaH h == 0)
 ·have hc' : (zaH h != 0) = true := by simpa using hc
  have hc0 : zaH h ≠ 0 := by simpa using hc
  simp only [hdigE,ziD,zcQ,if_pos hc0] at hK
  rw [zbC hT] at hK
  (repeat' first | refine gq2 hc' ?_ | with_reducible first | exact ⟨⟩ | refine zh ?_ | fail)
  (first | refine zar hl ?_ | refine zaq hl ?_)
  exact hK
 have hc0 : zaH h = 0 := by simpa using hc
 have hbl := hdrB_len (zdo.1 hc0)
 simp only [hdigE,ziD,zcQ,hc0,ne_eq,not_true_eq_false,if_false] at hK
 rw [zuh hc0,hc0]
 (repeat' first | refine gq2 (show ((0 : Int) != 0) = false from rfl) ?_ | with_reducible first | exact ⟨⟩ | refine zh ?_ | fail)
 refine zjK (zf hT) (by omega) hL ?_
 rw [zbD hT]
 have hl1 : zfg σ.length (σ.set id (rtO (zdD L (zlG h)))) := hl.setO (zfl _ _)
 have hs1 : (σ.set id (rtO (zdD L (zlG h)))).length = σ.length := by simp
 obtain ⟨S1,hS1⟩ : ∃ S1, σ.set id (rtO (zdD L (zlG h))) = S1 := ⟨_,rfl⟩
 rw [hS1] at hK hs1 hl1 ⊢
 by_cases hz : zcK L (zlG h) = 0
 ·rw [if_pos hz,hz] at hK
  rw [hz]
  (repeat' first | refine gq2 (show ((0 : Int) == 0) = true from rfl) ?_ | with_reducible first | exact ⟨⟩ | refine zh ?_ | fail)
  refine zdh hs1 ?_ hl1 ?_
  ·simp [zcU,dmT,dm,dm1,zbZ,zbr,zeG]
  ·exact hK
 ·have hq : (zcK L (zlG h) == 0) = false := by simpa using hz
  rw [if_neg hz] at hK
  (repeat' first | refine gq2 hq ?_ | with_reducible first | exact ⟨⟩ | refine zh ?_ | fail)
  refine zdh hs1 ?_ hl1 ?_
  ·simp [zcU,dmT,dm,dm1,zbZ,zbr,zeG]
  ·exact hK
end Go.Proofs.YtncpaekiidpchaaGreat

/- Which proofs may be: the first error of all that is asked. No program in sight. -/
namespace Go.AW
def zeM : List Int → Int
 | [] => 0
 | e :: r => if e ≠ 0 then e else zeM r
theorem zjF (a b : List Int) : zeM (a ++ b) = if zeM a ≠ 0 then zeM a else zeM b := by
 induction a with
 | nil => simp [zeM]
 | cons e r ih =>
  simp only [List.cons_append,zeM,ih]
  by_cases h : e = 0
  ·simp [h]
  ·simp [h]
theorem fstE_appN {a b : List Int} (h : zeM a ≠ 0) : zeM (a ++ b) = zeM a := by rw [zjF,if_pos h]
def zgQ (e x : Int) : Int := if e ≠ 0 then e else x
theorem thn_fst (e : Int) (l : List Int) : zgQ e (zeM l) = zeM (e :: l) := rfl
def inE (n lo hi : Int) : Int := if n < lo ∨ n > hi then 100 else 0
def znm (n : Int) : Int := inE n 0 9007199254740992
def posE (n : Int) : Int := inE n 1 9007199254740992
def nameE (s : List UInt8) : Int := if zdM s = true then 0 else 61
def zqi (l : List zJ) : List Int := inE l.length 0 13 :: l.map fun s => zau s.key s.dig
def zht (c : zfN) : Int := if ((c.seq = 0) ≠ (c.dig = 0)) ∨ (c.seq = 0 ∧ 0 < c.signs.length) then 100 else 0
def zmU (c : zfN) : List Int := znm c.seq :: znm c.dig :: zht c :: zqi c.signs
def zjP (h : zcJ) : List Int := [posE h.seq,znm h.prev,znm h.batch,znm h.root,znm h.state]
structure zaO where
 topic : List UInt8
 offset : Int
 rec_ : List UInt8
 headers : List zcJ
 index : Int
 count : Int
 path : List Int
 cert : zfN
abbrev proofD (p : zaO) : List D := [.str p.topic, .int .i64 p.offset, .slice (bcs p.rec_), .slice (zeR p.headers), .int .i64 p.index, .int .i64 p.count, .slice (zbJ p.path), .int .i64 p.cert.seq, .int .i64 p.cert.dig, .slice (zaA p.cert.signs)]
abbrev zgb (p : zaO) : AV := .agg [.d (.str p.topic), .d (.int .i64 p.offset), .d (.slice (bcs p.rec_)), .d (.slice (zeR p.headers)), .d (.int .i64 p.index), .d (.int .i64 p.count), .d (.slice (zbJ p.path)), .d (.int .i64 p.cert.seq), .d (.int .i64 p.cert.dig), .d (.slice (zaA p.cert.signs))]
abbrev certA (c : zfN) : AV := .agg [.d (.int .i64 c.seq), .d (.int .i64 c.dig), .d (.slice (zaA c.signs))]
def zfD (p : zaO) : List Int := [nameE p.topic,znm p.offset,inE p.rec_.length 0 64,inE p.headers.length 0 64]
def zcN (p : zaO) : List Int := [znm p.index,inE p.count 0 16]
def zky (p : zaO) : List Int := [inE p.index 0 (p.count - 1),inE p.path.length 0 8]
def znk (p : zaO) : List Int := zfD p ++ ((p.headers.map zjP).flatten ++ (zcN p ++ (zky p ++ (p.path.map znm ++ zmU p.cert))))
def zeE (p : zaO) : Int := zeM (znk p)
theorem inE_0 {n lo hi : Int} (h : inE n lo hi = 0) : lo ≤ n ∧ n ≤ hi := by
 unfold inE at h
 split at h
 ·cases h
 ·omega
theorem numE_0 {n : Int} (h : znm n = 0) : 0 ≤ n ∧ n ≤ 9007199254740992 := inE_0 h
end Go.AW
