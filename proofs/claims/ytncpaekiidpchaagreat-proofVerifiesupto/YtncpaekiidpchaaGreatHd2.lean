/- Contracts: chains of headers, leaves, a header's digest, on both sides. -/
import Derived.Test.YtncpaekiidpchaaGreatHd1
import Derived.Test.YtncpaekiidpchaaGreatRq2
set_option linter.all false
set_option maxRecDepth 100000
namespace Go.Proofs.YtncpaekiidpchaaGreat
open Go.AW
theorem hdr_seq {h : zeb} (hk : zaG h = 0) : 0 ≤ h.seq ∧ h.seq ≤ 9007199254740992 := zjb (zdt.1 hk) h.seq (by simp [zqJ])
theorem zup {h : zeb} (hk : (zaG h == 0) = false) : zkS h = false := by
 cases e : zkS h with
 | false => rfl
 | true => rw [zdt.2 e] at hk; cases hk
def zox (l : List zeb) : Nat → Option zeb
 | 0 => none
 | k + 1 => l[k]?
theorem zdx {l : List zeb} {k : Nat} {h : zeb} (hx : l[k]? = some h) : zox l (k + 1) = some h := hx
theorem znR {h : zeb} (hk : zaG h = 0) : hdrBF h = ztg h := if_pos hk
theorem gq33 {A P Q : Prop} (a : A) (h : Q) (e : A → P = Q := by intro a; simp -dsimp only [↓zen, ↓zaw, ↓zba, ↓zeo, ↓zej, ↓zeh, ↓zek, ↓zei, ↓zbf, ↓zbb, ↓zbg, ↓zbc, ↓zel, ↓zaZ, ↓zbh, ↓zbd, ↓zbi, ↓zbe, ↓zeg, ↓zem, ↓zaY, ↓zbj, ↓zee, ↓zed, ↓zef,iN,bT,bF,eN, ↓zcI, ↓unC, ↓zV, ↓zJ, ↓zK, ↓zN, ↓zaa, ↓zas, ↓zbH, ↓zah, ↓zaV, ↓zQ, ↓zp, ↓zo, ↓zbr, ↓zk, ↓zag, ↓zG, ↓zaB, ↓zaF, ↓ze, ↓zE, ↓zr, ↓zw, ↓zam, ↓zcs, ↓zcM, ↓zak, ↓zat, ↓zaE, ↓zaJ, ↓zaP, ↓zu, ↓zai, ↓zL, ↓zA, ↓zab,zcT,zaU,zaT,unA,zcW,bnd,zds,zae,zR,zdv,dm,dm1,zC,zaj,zdH,zdG,zM,Q0,Q1,Q2,Q3,Q4,Q5,zT,zq,zx,zO,zI,Q6,Q7,Q8,Q9,Q10,Q11,Q12,Q13,Q14,Nat.reduceAdd,Q15,Int.reduceToNat,Q16,Q17,Q18,Q19,Q20,reduceIte,Q21,Q22,zF,rep,zY,zdD,toD,zad,Q23,Q24,Q25,Q26,Q27,Q28,Nat.reduceLeDiff,Q29,Nat.reduceSub,Q30,Q31,Q32,sc,Q33,Q34,Q35,Q36,Q37,Q26,Q38,Q39,zfZ,zfW,zfT,zga,zbR,zfX,zfU,zfY,zfV,zbQ,zbS,zgb,zgc,Bool.not_true,Bool.not_false,List.length_map,Option.isSome_some,a]; rfl) : P := (e a).mpr h
theorem c_hrChain {σ : List zh} {id : Nat} {L : List (List UInt8)} {l : List zeb} (hT : σ[id]? = some (rtO L)) (hL : L.length ≤ 1048576) (hl0 : l.length ≤ 1073741824) {K : KT} (hK : K (.d (.bool (zlF L l))) σ) :
  zy Tryz.prog znh [.box id 0, .d (.slice (zcR l))] σ K := by
 refine zi zrW.is rfl fun hl _ => zrW.goes ?_
 have fin : ∀ z,zlF L l = z → K (.d (.bool z)) σ := fun z h => h ▸ hK
 clear hK
 have hlen : (zcR l).length = l.length := List.length_map ..
 simp only [zsH,iN,bT,bF,eN]
 refine zB l.length (fun k vs s => vs = [.d (.int .i64 k)] ∧ s = σ ∧ zlF L l = zqo L (zox l k) (l.drop k) ∧ ∀ q,zox l k = some q → zaG q = 0) ⟨rfl,rfl,rfl,by simp [zox]⟩ ?_
 rintro k vs s hk ⟨rfl,rfl,hpf,hq⟩
 by_cases hlt : k < l.length
 ·have hd : decide ((k : Int) < (l.length : Int)) = true := by simp; omega
  have hx : l[k]? = some l[k] := by simp [hlt]
  have hgx := zU (f := hdrD) hx
  obtain ⟨h,hhe⟩ : ∃ h,l[k] = h := ⟨_,rfl⟩
  rw [hhe] at hx hgx
  rw [zuq hx] at hpf
  (repeat' first | refine gq2 (zc hd (zc hgx hlen)) ?_ | with_reducible first | exact ⟨⟩ | refine zg ?_ | fail)
  refine zss (h := h) ?_
  cases hc : (zaG h == 0)
  ·have hc' : (zaG h != 0) = true := by simpa using hc
   (repeat' first | refine gq2 hc' ?_ | with_reducible first | exact ⟨⟩ | refine zg ?_ | fail)
   (first | refine zX hl ?_ | refine zW hl ?_)
   exact fin _ (by rw [hpf,zup hc]; rfl)
  have hc0 : zaG h = 0 := by simpa using hc
  rw [zdt.1 hc0,Bool.true_and] at hpf
  rw [hc0]
  cases k with
  | zero =>
   (repeat' first | refine gq2 (zc (show ((0 : Int) != 0) = false from rfl) (zc (show (((0 : Nat) : Int) == 0) = true from rfl) (wki 0 (by omega)))) ?_ | with_reducible first | exact ⟨⟩ | refine zg ?_ | fail)
   refine zap.next hlt ⟨rfl,rfl, ?_, ?_⟩
   ·rw [hpf]; simp [zox,linkF,hx]
   ·intro q hq2
    rw [zdx hx] at hq2
    cases hq2; exact hc0
  | succ j =>
   have hz : (((j + 1 : Nat) : Int) == 0) = false := by simp; omega
   have hy : l[j]? = some l[j] := by simp [show j < l.length by omega]
   have hgy := zU (f := hdrD) hy
   obtain ⟨q,hqe⟩ : ∃ q,l[j] = q := ⟨_,rfl⟩
   rw [hqe] at hy hgy
   have hqc := hq q (zdx hy)
   have hqs := hdr_seq hqc
   have hw1 : IntKind.i64.wrap (((j + 1 : Nat) : Int) - 1) = (j : Int) := by rw [zP (by omega) (by omega)]; omega
   have hw2 : IntKind.i64.wrap (q.seq + 1) = q.seq + 1 := zP (by omega) (by omega)
   have hw3 := wki (j + 1) (by omega)
   rw [zdx hy] at hpf
   (repeat' first | refine gq2 (zc (show ((0 : Int) != 0) = false from rfl) (zc hz (zc hw1 (zc hgy hlen)))) ?_ | with_reducible first | exact ⟨⟩ | refine zg ?_ | fail)
   refine zst (h := q) ?_
   rw [znR hqc,hqc]
   (repeat' first | refine gq1 ?_ | with_reducible first | exact ⟨⟩ | refine zg ?_ | fail)
   refine zkk hT hL ?_
   cases hlk : zcX L (ztg q) with
   | none =>
    (repeat' first | refine gq7 ?_ | with_reducible first | exact ⟨⟩ | refine zg ?_ | fail)
    (first | refine zX hl ?_ | refine zW hl ?_)
    exact fin _ (by rw [hpf]; simp [linkF,hlk])
   | some i =>
    simp only [linkF,hlk] at hpf
    simp only [zlb]
    cases h1 : (h.prev == ((i + 1 : Nat) : Int))
    ·have h1' : (h.prev != ((i + 1 : Nat) : Int)) = true := by simpa using h1
     (repeat' first | refine gq33 (zc hgx h1') ?_ | with_reducible first | exact ⟨⟩ | refine zg ?_ | fail)
     (first | refine zX hl ?_ | refine zW hl ?_)
     exact fin _ (by rw [hpf,h1]; rfl)
    have h1' : (h.prev != ((i + 1 : Nat) : Int)) = false := by simpa using h1
    cases h2 : (h.seq == q.seq + 1)
    ·have h2' : (h.seq != q.seq + 1) = true := by simpa using h2
     (repeat' first | refine gq33 (zc hgx (zc hgy (zc hw1 (zc hw2 (zc h1' h2'))))) ?_ | with_reducible first | exact ⟨⟩ | refine zg ?_ | fail)
     (first | refine zX hl ?_ | refine zW hl ?_)
     exact fin _ (by rw [hpf,h1,h2]; rfl)
    have h2' : (h.seq != q.seq + 1) = false := by simpa using h2
    (repeat' first | refine gq33 (zc hgx (zc hgy (zc hw1 (zc hw2 (zc h1' (zc h2' hw3)))))) ?_ | with_reducible first | exact ⟨⟩ | refine zg ?_ | fail)
    refine zap.next hlt ⟨rfl,rfl, ?_, ?_⟩
    ·rw [hpf,h1,h2,zdx hx]; rfl
    ·intro q2 hq2
     rw [zdx hx] at hq2
     cases hq2; exact hc0
 ·have hd : decide ((k : Int) < (l.length : Int)) = false := by simp; omega
  rw [List.drop_eq_nil_of_le (by omega)] at hpf
  (repeat' first | refine gq2 (zc hd hlen) ?_ | with_reducible first | exact ⟨⟩ | refine zg ?_ | fail)
  (first | refine zX hl ?_ | refine zW hl ?_)
  exact fin _ hpf
theorem c_blMade {σ : List zh} {id m t : Nat} {L : List (List UInt8)} (hT : zcq σ id m t L) (hL : zkB L) {K : KT} (hK : K (.d (.bool true)) σ) : zy Tryz.prog zln [.box id 0] σ K := by
 refine zi zqm.is rfl fun hl _ => zqm.goes ?_
 simp only [zqF,iN,bT,bF,eN]
 (repeat' first | refine gq1 ?_ | with_reducible first | exact ⟨⟩ | refine zg ?_ | fail)
 refine zmo hT hL.nd hL.len hL.each ?_
 (repeat' first | refine gq1 ?_ | with_reducible first | exact ⟨⟩ | refine zg ?_ | fail)
 (first | refine zX hl ?_ | refine zW hl ?_)
 exact hK
theorem c_blChain {σ : List zh} {id m t : Nat} {L : List (List UInt8)} {l : List zeb} (hT : zcq σ id m t L) (hL : zkB L) (hl0 : l.length ≤ 1073741824) {K : KT} (hK : K (.d (.bool (zlF L l))) σ) :
  zy Tryz.prog zkb [.box id 0, .d (.slice (zcR l))] σ K := by
 refine zi zoj.is rfl fun hl _ => zoj.goes ?_
 have fin : ∀ z,zlF L l = z → K (.d (.bool z)) σ := fun z h => h ▸ hK
 clear hK
 have hlen : (zcR l).length = l.length := List.length_map ..
 simp only [zoM,iN,bT,bF,eN]
 (repeat' first | refine gq1 ?_ | with_reducible first | exact ⟨⟩ | refine zg ?_ | fail)
 refine c_blMade hT hL ?_
 (repeat' first | refine gq2 hlen ?_ | with_reducible first | exact ⟨⟩ | refine zg ?_ | fail)
 refine zB l.length (fun k vs s => vs = [.d (.int .i64 k)] ∧ (∃ T,s = σ ++ T) ∧ zlF L l = zqo L (zox l k) (l.drop k) ∧ ∀ q,zox l k = some q → zaG q = 0) ⟨rfl,⟨[],by simp⟩,rfl,by simp [zox]⟩ ?_
 rintro k vs s hk ⟨rfl,⟨T,rfl⟩,hpf,hq⟩
 by_cases hlt : k < l.length
 ·have hd : decide ((k : Int) < (l.length : Int)) = true := by simp; omega
  have hx : l[k]? = some l[k] := by simp [hlt]
  have hgx := zU (f := hdrD) hx
  obtain ⟨h,hhe⟩ : ∃ h,l[k] = h := ⟨_,rfl⟩
  rw [hhe] at hx hgx
  rw [zuq hx] at hpf
  (repeat' first | refine gq2 (zc hd (zc hgx hlen)) ?_ | with_reducible first | exact ⟨⟩ | refine zg ?_ | fail)
  refine c_blCheck (h := h) ?_
  cases hc : (zaG h == 0)
  ·have hc' : (zaG h != 0) = true := by simpa using hc
   (repeat' first | refine gq2 hc' ?_ | with_reducible first | exact ⟨⟩ | refine zg ?_ | fail)
   (first | refine zX hl ?_ | refine zW hl ?_)
   exact fin _ (by rw [hpf,zup hc]; rfl)
  have hc0 : zaG h = 0 := by simpa using hc
  have hhs := hdr_seq hc0
  rw [zdt.1 hc0,Bool.true_and] at hpf
  rw [hc0]
  cases k with
  | zero =>
   (repeat' first | refine gq2 (zc (show ((0 : Int) != 0) = false from rfl) (zc (show (((0 : Nat) : Int) == 0) = true from rfl) (wki 0 (by omega)))) ?_ | with_reducible first | exact ⟨⟩ | refine zg ?_ | fail)
   refine zap.next hlt ⟨rfl,⟨_,rfl⟩, ?_, ?_⟩
   ·rw [hpf]; simp [zox,linkF,hx]
   ·intro q hq2
    rw [zdx hx] at hq2
    cases hq2; exact hc0
  | succ j =>
   have hz : (((j + 1 : Nat) : Int) == 0) = false := by simp; omega
   have hy : l[j]? = some l[j] := by simp [show j < l.length by omega]
   have hgy := zU (f := hdrD) hy
   obtain ⟨q,hqe⟩ : ∃ q,l[j] = q := ⟨_,rfl⟩
   rw [hqe] at hy hgy
   have hqc := hq q (zdx hy)
   have hqs := hdr_seq hqc
   have hw1 : IntKind.i64.wrap (((j + 1 : Nat) : Int) - 1) = (j : Int) := by rw [zP (by omega) (by omega)]; omega
   have hw2 : IntKind.i64.wrap (h.seq - 1) = h.seq - 1 := zP (by omega) (by omega)
   have hw3 := wki (j + 1) (by omega)
   rw [zdx hy] at hpf
   (repeat' first | refine gq2 (zc (show ((0 : Int) != 0) = false from rfl) (zc hz (zc hw1 (zc hgy hlen)))) ?_ | with_reducible first | exact ⟨⟩ | refine zg ?_ | fail)
   refine c_blBytes (h := q) ?_
   rw [znR hqc,hqc]
   (repeat' first | refine gq1 ?_ | with_reducible first | exact ⟨⟩ | refine zg ?_ | fail)
   refine znu (hT.app _) ?_
   cases hlk : zcX L (ztg q) with
   | none =>
    (repeat' first | refine gq7 ?_ | with_reducible first | exact ⟨⟩ | refine zg ?_ | fail)
    (first | refine zX hl ?_ | refine zW hl ?_)
    exact fin _ (by rw [hpf]; simp [linkF,hlk])
   | some i =>
    simp only [linkF,hlk] at hpf
    simp only [zlb]
    cases h1 : (h.prev == ((i + 1 : Nat) : Int))
    ·have h1' : (h.prev != ((i + 1 : Nat) : Int)) = true := by simpa using h1
     (repeat' first | refine gq33 (zc hgx h1') ?_ | with_reducible first | exact ⟨⟩ | refine zg ?_ | fail)
     (first | refine zX hl ?_ | refine zW hl ?_)
     exact fin _ (by rw [hpf,h1]; rfl)
    have h1' : (h.prev != ((i + 1 : Nat) : Int)) = false := by simpa using h1
    have e2 : (h.seq - 1 != q.seq) = !(h.seq == q.seq + 1) := by
     rw [Bool.eq_iff_iff]
     simp only [bne_iff_ne,Bool.not_eq_true',beq_eq_false_iff_ne,ne_eq]
     omega
    cases h2 : (h.seq == q.seq + 1)
    ·rw [h2] at e2
     (repeat' first | refine gq33 (zc hgx (zc hgy (zc hw1 (zc hw2 (zc h1' e2))))) ?_ | with_reducible first | exact ⟨⟩ | refine zg ?_ | fail)
     (first | refine zX hl ?_ | refine zW hl ?_)
     exact fin _ (by rw [hpf,h1,h2]; rfl)
    rw [h2] at e2
    (repeat' first | refine gq33 (zc hgx (zc hgy (zc hw1 (zc hw2 (zc h1' (zc e2 hw3)))))) ?_ | with_reducible first | exact ⟨⟩ | refine zg ?_ | fail)
    refine zap.next hlt ⟨rfl,⟨_,rfl⟩, ?_, ?_⟩
    ·rw [hpf,h1,h2,zdx hx]; rfl
    ·intro q2 hq2
     rw [zdx hx] at hq2
     cases hq2; exact hc0
 ·have hd : decide ((k : Int) < (l.length : Int)) = false := by simp; omega
  rw [List.drop_eq_nil_of_le (by omega)] at hpf
  (repeat' first | refine gq2 (zc hd hlen) ?_ | with_reducible first | exact ⟨⟩ | refine zg ?_ | fail)
  (first | refine zX hl ?_ | refine zW hl ?_)
  exact fin _ hpf
theorem zuy {σ : List zh} {l : List zbt} (hl0 : l.length ≤ 1073741824) (hp : ∀ p ∈ l,zjL p) {K : KT} (hK : K (.d (.slice (zcy (l.map zay)))) σ) : zy Tryz.prog zii [.d (.slice (zci l))] σ K := by
 refine zi zpZ.is rfl fun hl _ => zpZ.goes ?_
 have hlen : (zci l).length = l.length := List.length_map ..
 simp only [zqs,iN,bT,bF,eN]
 refine zaI l.length (fun k vs s => vs = [.own σ.length (zcy ((l.take k).map zay)), .d (.int .i64 k)] ∧ ∃ T,s = σ ++ (.tok 1 k :: T)) (.tok 0 [] 1 rfl (by simp) (.refl _ _)) ⟨by simp, [],rfl⟩ ?_
 rintro k vs s hk ⟨rfl,T,rfl⟩
 by_cases hlt : k < l.length
 ·have hd : decide ((k : Int) < (l.length : Int)) = true := by simp; omega
  have hx : l[k]? = some l[k] := by simp [hlt]
  have hpx := hp _ (List.getElem_mem hlt)
  have hgx := zU (f := zkY) hx
  obtain ⟨p,hpe⟩ : ∃ p,l[k] = p := ⟨_,rfl⟩
  rw [hpe] at hx hgx hpx
  have hnx : zcy ((l.take k).map zay) ++ [[D.slice (bcs (zay p))]] = zcy ((l.take (k + 1)).map zay) := by
   rw [List.take_add_one,hx]; simp
  have hk2 : (zcy ((l.take k).map zay)).length = k := by simp; omega
  (repeat' first | refine gq2 (zc hd (zc hgx hlen)) ?_ | with_reducible first | exact ⟨⟩ | refine zg ?_ | fail)
  refine zux hpx ?_
  (repeat' first | refine gq2 (zc hk2 (zc hnx (wki k (by omega)))) ?_ | with_reducible first | exact ⟨⟩ | refine zg ?_ | fail)
  exact zap.next hlt ⟨rfl,_,rfl⟩
 ·have hd : decide ((k : Int) < (l.length : Int)) = false := by simp; omega
  rw [List.take_of_length_le (by omega)]
  (repeat' first | refine gq2 (zc hd hlen) ?_ | with_reducible first | exact ⟨⟩ | refine zg ?_ | fail)
  (first | refine zX hl ?_ | refine zW hl ?_)
  exact hK
theorem c_blLeaves {σ : List zh} {l : List zbt} (hl0 : l.length ≤ 1073741824) (hp : ∀ p ∈ l,zjL p) {K : KT} (hK : K (.d (.slice (zcy (l.map zay)))) σ) : zy Tryz.prog ziK [.d (.slice (zci l))] σ K := by
 refine zi zmP.is rfl fun hl _ => zmP.goes ?_
 have hlen : (zci l).length = l.length := List.length_map ..
 simp only [znc,iN,bT,bF,eN]
 (repeat' first | refine gq2 hlen ?_ | with_reducible first | exact ⟨⟩ | refine zg ?_ | fail)
 refine zaI l.length (fun k vs s => vs = [.own σ.length (zcy ((l.take k).map zay)), .d (.int .i64 k)] ∧ ∃ T,s = σ ++ (.tok 1 k :: T)) (.tok 0 [] 1 rfl (by simp) (.refl _ _)) ⟨by simp, [],rfl⟩ ?_
 rintro k vs s hk ⟨rfl,T,rfl⟩
 by_cases hlt : k < l.length
 ·have hd : decide ((k : Int) < (l.length : Int)) = true := by simp; omega
  have hx : l[k]? = some l[k] := by simp [hlt]
  have hpx := hp _ (List.getElem_mem hlt)
  have hgx := zU (f := zkY) hx
  obtain ⟨p,hpe⟩ : ∃ p,l[k] = p := ⟨_,rfl⟩
  rw [hpe] at hx hgx hpx
  have hnx : zcy ((l.take k).map zay) ++ [[D.slice (bcs (zay p))]] = zcy ((l.take (k + 1)).map zay) := by
   rw [List.take_add_one,hx]; simp
  have hk2 : (zcy ((l.take k).map zay)).length = k := by simp; omega
  (repeat' first | refine gq2 (zc hd (zc hgx hlen)) ?_ | with_reducible first | exact ⟨⟩ | refine zg ?_ | fail)
  refine zus hpx ?_
  (repeat' first | refine gq2 (zc hk2 (zc hnx (wki k (by omega)))) ?_ | with_reducible first | exact ⟨⟩ | refine zg ?_ | fail)
  exact zap.next hlt ⟨rfl,_,rfl⟩
 ·have hd : decide ((k : Int) < (l.length : Int)) = false := by simp; omega
  rw [List.take_of_length_le (by omega)]
  (repeat' first | refine gq2 (zc hd hlen) ?_ | with_reducible first | exact ⟨⟩ | refine zg ?_ | fail)
  (first | refine zX hl ?_ | refine zW hl ?_)
  exact hK
def hdigE (L : List (List UInt8)) (h : zeb) : Int := if zaG h ≠ 0 then zaG h else if zew L (ztg h) = 0 then 6 else 0
def zth (L : List (List UInt8)) (h : zeb) : Int := if zaG h ≠ 0 then 0 else zew L (ztg h)
def zgu (L : List (List UInt8)) (h : zeb) : List (List UInt8) := if zaG h ≠ 0 then L else zfo L (ztg h)
theorem zpF {σ : List zh} {id : Nat} {L : List (List UInt8)} {h : zeb} (hT : σ[id]? = some (rtO L)) (hL : L.length ≤ 1048576) {K : KT}
  (hK : K (.tup [.d (.int .i64 (zth L h)), .d (.int .i64 (hdigE L h))]) (σ.set id (rtO (zgu L h)))) : zy Tryz.prog zij [.box id 0,ztJ h] σ K := by
 refine zi zqa.is rfl fun hl _ => zqa.goes ?_
 simp only [zqt,iN,bT,bF,eN,ztJ]
 (repeat' first | refine gq1 ?_ | with_reducible first | exact ⟨⟩ | refine zg ?_ | fail)
 refine zst (h := h) ?_
 cases hc : (zaG h == 0)
 ·have hc' : (zaG h != 0) = true := by simpa using hc
  have hc0 : zaG h ≠ 0 := by simpa using hc
  simp only [hdigE,zth,zgu,if_pos hc0] at hK
  rw [zbC hT] at hK
  (repeat' first | refine gq2 hc' ?_ | with_reducible first | exact ⟨⟩ | refine zg ?_ | fail)
  (first | refine zX hl ?_ | refine zW hl ?_)
  exact hK
 have hc0 : zaG h = 0 := by simpa using hc
 have hbl := hdrB_len (zdt.1 hc0)
 simp only [hdigE,zth,zgu,hc0,ne_eq,not_true_eq_false,if_false] at hK
 rw [znR hc0,hc0]
 (repeat' first | refine gq2 (show ((0 : Int) != 0) = false from rfl) ?_ | with_reducible first | exact ⟨⟩ | refine zg ?_ | fail)
 refine zkj (zf hT) (by omega) hL ?_
 rw [zbD hT]
 have hl1 : zfn σ.length (σ.set id (rtO (zfo L (ztg h)))) := hl.setO (zeG _ _)
 have hs1 : (σ.set id (rtO (zfo L (ztg h)))).length = σ.length := by simp
 obtain ⟨S1,hS1⟩ : ∃ S1, σ.set id (rtO (zfo L (ztg h))) = S1 := ⟨_,rfl⟩
 rw [hS1] at hK hs1 hl1 ⊢
 by_cases hz : zew L (ztg h) = 0
 ·rw [if_pos hz,hz] at hK
  rw [hz]
  (repeat' first | refine gq2 (show ((0 : Int) == 0) = true from rfl) ?_ | with_reducible first | exact ⟨⟩ | refine zg ?_ | fail)
  refine zcN hs1 ?_ hl1 ?_
  ·simp [zcZ,dmT,dm,dm1,zcf,zbu,zeu]
  ·exact hK
 ·have hq : (zew L (ztg h) == 0) = false := by simpa using hz
  rw [if_neg hz] at hK
  (repeat' first | refine gq2 hq ?_ | with_reducible first | exact ⟨⟩ | refine zg ?_ | fail)
  refine zcN hs1 ?_ hl1 ?_
  ·simp [zcZ,dmT,dm,dm1,zcf,zbu,zeu]
  ·exact hK
end Go.Proofs.YtncpaekiidpchaaGreat
