/- Contracts: chains of headers, leaves, a header's digest, on both sides. -/
import Derived.Test.YtfjommppajkpoaaGreatId5
import Derived.Test.YtfjommppajkpoaaGreatRq2
set_option linter.all false
set_option maxRecDepth 100000
namespace Go.Proofs.YtfjommppajkpoaaGreat
open Go.AW
theorem hdr_seq {h : zdW} (hk : zaA h = 0) : 0 ≤ h.seq ∧ h.seq ≤ 9007199254740992 := ziA (zdg.1 hk) h.seq (by simp [zqb])
theorem ztE {h : zdW} (hk : (zaA h == 0) = false) : zkd h = false := by
 cases e : zkd h with
 | false => rfl
 | true => rw [zdg.2 e] at hk; cases hk
def znZ (l : List zdW) : Nat → Option zdW
 | 0 => none
 | k + 1 => l[k]?
theorem zdk {l : List zdW} {k : Nat} {h : zdW} (hx : l[k]? = some h) : znZ l (k + 1) = some h := hx
theorem znA {h : zdW} (hk : zaA h = 0) : hdrBF h = zsH h := if_pos hk
theorem zbq {A P Q : Prop} (a : A) (h : Q) (e : A → Hd Q → P := by intro a h; (repeat' first | simp -dsimp only [↓zgr, ↓zaF, ↓zbL, ↓zgt, ↓zgn, ↓zgl, ↓zgo, ↓zgm, ↓zbR, ↓zbN, ↓zbS, ↓zbO, ↓zgp, ↓zbJ, ↓zbT, ↓zbP, ↓zbU, ↓zbQ, ↓zgj, ↓zgq, ↓zbI, ↓zbX, ↓zgc, ↓zgb, ↓zgi,iN,bT,bF,eN, ↓zdN, ↓unC, ↓zac, ↓zQ, ↓zR, ↓zV, ↓zak, ↓zau, ↓zco, ↓zag, ↓zaJ, ↓zW, ↓zp, ↓zo, ↓zbF, ↓zl, ↓zan, ↓zF, ↓zaM, ↓zaW, ↓ze, ↓zC, ↓zu, ↓zy, ↓zav, ↓zdr, ↓zdU, ↓zat, ↓zaB, ↓zaU, ↓zbk, ↓zbv, ↓zD, ↓zaq, ↓zS, ↓zE, ↓zam,zeb,zbD,zbB,unA,zei,bnd,zeF,zai,zP,zeE,dm,dm1,zB,zal,zfg,zff,zx,Q0,Q1,Q2,Q3,Q4,Q5,zZ,zh,zm,zT,zN,Q6,Q7,Q8,Q9,Q10,Q11,Q12,Q13,Q14,Nat.reduceAdd,Q15,Int.reduceToNat,Q16,Q17,Q18,Q19,Q20,reduceIte,Q21,Q22,zH,rep,zX,zfc,toD,zah,Q23,Q24,Q25,Q26,Q27,Q28,Nat.reduceLeDiff,Q29,Nat.reduceSub,Q30,Q31,Q32,sc,Q33,Q34,Q35,Q36,Q37,Q26,Q38,Q39,zkn,zkk,zkh,zko,zdu,zkl,zki,zkm,zkj,zdt,zdv,zkp,zkq,Bool.not_true,Bool.not_false,List.length_map,Bool.and_false,Bool.and_self,Bool.false_and,Bool.not_false,Bool.not_true,Bool.true_and,Int.toNat_natCast,Int.toNat_zero,List.drop_zero,List.length_map,List.length_nil,List.nil_append,List.take_length,Nat.sub_zero,Nat.zero_add,Option.isSome_none,Option.isSome_some,Option.map_none,Option.map_some,zaH,beq_self_eq_true,bne_self_eq_false,a] | with_reducible refine zkr ?_ | fail); exact h.go) : P := e a ⟨h⟩
theorem c_hrChain {σ : List zg} {id : Nat} {L : List (List UInt8)} {l : List zdW} (hT : σ[id]? = some (rtO L)) (hL : L.length ≤ 1048576) (hl0 : l.length ≤ 1073741824) {K : KT} (hK : K (.d (.bool (zkW L l))) σ) :
  zq Tryz.prog zmz [.box id 0, .d (.slice (zdf l))] σ K := by
 refine zga e_r09_Chain fun hl => ?_
 have fin : ∀ z,zkW L l = z → K (.d (.bool z)) σ := fun z h => h ▸ hK
 clear hK
 have hlen : (zdf l).length = l.length := List.length_map ..
 simp only [zsh,iN,bT,bF,eN]
 refine zw l.length (fun k vs s => vs = [.d (.int .i64 k)] ∧ s = σ ∧ zkW L l = zpE L (znZ l k) (l.drop k) ∧ ∀ q,znZ l k = some q → zaA q = 0) ⟨rfl,rfl,rfl,by simp [znZ]⟩ ?_
 rintro k vs s hk ⟨rfl,rfl,hpf,hq⟩
 by_cases hlt : k < l.length
 ·have hd : decide ((k : Int) < (l.length : Int)) = true := by simp; omega
  have hx : l[k]? = some l[k] := by simp [hlt]
  have hgx := zU (f := zuJ) hx
  obtain ⟨h,hhe⟩ : ∃ h,l[k] = h := ⟨_,rfl⟩
  rw [hhe] at hx hgx
  rw [ztF hx] at hpf
  refine gq2 (zc hd (zc hgx hlen)) ?_
  refine zrQ (h := h) ?_
  cases hc : (zaA h == 0)
  ·have hc' : (zaA h != 0) = true := by simpa using hc
   refine gq2 hc' ?_
   refine zK hl ?_
   exact fin _ (by rw [hpf,ztE hc]; rfl)
  have hc0 : zaA h = 0 := by simpa using hc
  rw [zdg.1 hc0,Bool.true_and] at hpf
  rw [hc0]
  cases k with
  | zero =>
   refine gq2 (zc (show ((0 : Int) != 0) = false from rfl) (zc (show (((0 : Nat) : Int) == 0) = true from rfl) (wki 0 (by omega)))) ?_
   refine zap.next hlt ⟨rfl,rfl, ?_, ?_⟩
   ·rw [hpf]; simp [znZ,linkF,hx]
   ·intro q hq2
    rw [zdk hx] at hq2
    cases hq2; exact hc0
  | succ j =>
   have hz : (((j + 1 : Nat) : Int) == 0) = false := by simp; omega
   have hy : l[j]? = some l[j] := by simp [show j < l.length by omega]
   have hgy := zU (f := zuJ) hy
   obtain ⟨q,hqe⟩ : ∃ q,l[j] = q := ⟨_,rfl⟩
   rw [hqe] at hy hgy
   have hqc := hq q (zdk hy)
   have hqs := hdr_seq hqc
   have hw1 : IntKind.i64.wrap (((j + 1 : Nat) : Int) - 1) = (j : Int) := by rw [zJ (by omega) (by omega)]; omega
   have hw2 : IntKind.i64.wrap (q.seq + 1) = q.seq + 1 := zJ (by omega) (by omega)
   have hw3 := wki (j + 1) (by omega)
   rw [zdk hy] at hpf
   refine gq2 (zc (show ((0 : Int) != 0) = false from rfl) (zc hz (zc hw1 (zc hgy hlen)))) ?_
   refine zrR (h := q) ?_
   rw [znA hqc,hqc]
   refine gq1 ?_
   refine zjD hT hL ?_
   cases hlk : zcN L (zsH q) with
   | none =>
    refine gq5 ?_
    refine zK hl ?_
    exact fin _ (by rw [hpf]; simp [linkF,hlk])
   | some i =>
    simp only [linkF,hlk] at hpf
    simp only [zji]
    cases h1 : (h.prev == ((i + 1 : Nat) : Int))
    ·have h1' : (h.prev != ((i + 1 : Nat) : Int)) = true := by simpa using h1
     refine zbq (zc hgx h1') ?_
     refine zK hl ?_
     exact fin _ (by rw [hpf,h1]; rfl)
    have h1' : (h.prev != ((i + 1 : Nat) : Int)) = false := by simpa using h1
    cases h2 : (h.seq == q.seq + 1)
    ·have h2' : (h.seq != q.seq + 1) = true := by simpa using h2
     refine zbq (zc hgx (zc hgy (zc hw1 (zc hw2 (zc h1' h2'))))) ?_
     refine zK hl ?_
     exact fin _ (by rw [hpf,h1,h2]; rfl)
    have h2' : (h.seq != q.seq + 1) = false := by simpa using h2
    refine zbq (zc hgx (zc hgy (zc hw1 (zc hw2 (zc h1' (zc h2' hw3)))))) ?_
    refine zap.next hlt ⟨rfl,rfl, ?_, ?_⟩
    ·rw [hpf,h1,h2,zdk hx]; rfl
    ·intro q2 hq2
     rw [zdk hx] at hq2
     cases hq2; exact hc0
 ·have hd : decide ((k : Int) < (l.length : Int)) = false := by simp; omega
  rw [List.drop_eq_nil_of_le (by omega)] at hpf
  refine gq2 (zc hd hlen) ?_
  refine zK hl ?_
  exact fin _ hpf
theorem c_blMade {σ : List zg} {id m t : Nat} {L : List (List UInt8)} (hT : zcd σ id m t L) (hL : zjN L) {K : KT} (hK : K (.d (.bool true)) σ) : zq Tryz.prog zkM [.box id 0] σ K := by
 refine zec e_block_made fun hl => ?_
 simp only [zpW,iN,bT,bF,eN]
 refine gq1 ?_
 refine zjB hT hL.nd hL.len hL.each ?_
 refine gq1 ?_
 refine zK hl ?_
 exact hK
theorem c_blChain {σ : List zg} {id m t : Nat} {L : List (List UInt8)} {l : List zdW} (hT : zcd σ id m t L) (hL : zjN L) (hl0 : l.length ≤ 1073741824) {K : KT} (hK : K (.d (.bool (zkW L l))) σ) :
  zq Tryz.prog zju [.box id 0, .d (.slice (zdf l))] σ K := by
 refine zga zvb fun hl => ?_
 have fin : ∀ z,zkW L l = z → K (.d (.bool z)) σ := fun z h => h ▸ hK
 clear hK
 have hlen : (zdf l).length = l.length := List.length_map ..
 simp only [zon,iN,bT,bF,eN]
 refine gq1 ?_
 refine c_blMade hT hL ?_
 refine gq2 hlen ?_
 refine zw l.length (fun k vs s => vs = [.d (.int .i64 k)] ∧ (∃ T,s = σ ++ T) ∧ zkW L l = zpE L (znZ l k) (l.drop k) ∧ ∀ q,znZ l k = some q → zaA q = 0) ⟨rfl,⟨[],by simp⟩,rfl,by simp [znZ]⟩ ?_
 rintro k vs s hk ⟨rfl,⟨T,rfl⟩,hpf,hq⟩
 by_cases hlt : k < l.length
 ·have hd : decide ((k : Int) < (l.length : Int)) = true := by simp; omega
  have hx : l[k]? = some l[k] := by simp [hlt]
  have hgx := zU (f := zuJ) hx
  obtain ⟨h,hhe⟩ : ∃ h,l[k] = h := ⟨_,rfl⟩
  rw [hhe] at hx hgx
  rw [ztF hx] at hpf
  refine gq2 (zc hd (zc hgx hlen)) ?_
  refine c_blCheck (h := h) ?_
  cases hc : (zaA h == 0)
  ·have hc' : (zaA h != 0) = true := by simpa using hc
   refine gq2 hc' ?_
   refine zK hl ?_
   exact fin _ (by rw [hpf,ztE hc]; rfl)
  have hc0 : zaA h = 0 := by simpa using hc
  have hhs := hdr_seq hc0
  rw [zdg.1 hc0,Bool.true_and] at hpf
  rw [hc0]
  cases k with
  | zero =>
   refine gq2 (zc (show ((0 : Int) != 0) = false from rfl) (zc (show (((0 : Nat) : Int) == 0) = true from rfl) (wki 0 (by omega)))) ?_
   refine zap.next hlt ⟨rfl,⟨_,rfl⟩, ?_, ?_⟩
   ·rw [hpf]; simp [znZ,linkF,hx]
   ·intro q hq2
    rw [zdk hx] at hq2
    cases hq2; exact hc0
  | succ j =>
   have hz : (((j + 1 : Nat) : Int) == 0) = false := by simp; omega
   have hy : l[j]? = some l[j] := by simp [show j < l.length by omega]
   have hgy := zU (f := zuJ) hy
   obtain ⟨q,hqe⟩ : ∃ q,l[j] = q := ⟨_,rfl⟩
   rw [hqe] at hy hgy
   have hqc := hq q (zdk hy)
   have hqs := hdr_seq hqc
   have hw1 : IntKind.i64.wrap (((j + 1 : Nat) : Int) - 1) = (j : Int) := by rw [zJ (by omega) (by omega)]; omega
   have hw2 : IntKind.i64.wrap (h.seq - 1) = h.seq - 1 := zJ (by omega) (by omega)
   have hw3 := wki (j + 1) (by omega)
   rw [zdk hy] at hpf
   refine gq2 (zc (show ((0 : Int) != 0) = false from rfl) (zc hz (zc hw1 (zc hgy hlen)))) ?_
   refine c_blBytes (h := q) ?_
   rw [znA hqc,hqc]
   refine gq1 ?_
   refine zmW (hT.app _) ?_
   cases hlk : zcN L (zsH q) with
   | none =>
    refine gq5 ?_
    refine zK hl ?_
    exact fin _ (by rw [hpf]; simp [linkF,hlk])
   | some i =>
    simp only [linkF,hlk] at hpf
    simp only [zji]
    cases h1 : (h.prev == ((i + 1 : Nat) : Int))
    ·have h1' : (h.prev != ((i + 1 : Nat) : Int)) = true := by simpa using h1
     refine zbq (zc hgx h1') ?_
     refine zK hl ?_
     exact fin _ (by rw [hpf,h1]; rfl)
    have h1' : (h.prev != ((i + 1 : Nat) : Int)) = false := by simpa using h1
    have e2 : (h.seq - 1 != q.seq) = !(h.seq == q.seq + 1) := by
     rw [Bool.eq_iff_iff]
     simp only [bne_iff_ne,Bool.not_eq_true',beq_eq_false_iff_ne,ne_eq]
     omega
    cases h2 : (h.seq == q.seq + 1)
    ·rw [h2] at e2
     refine zbq (zc hgx (zc hgy (zc hw1 (zc hw2 (zc h1' e2))))) ?_
     refine zK hl ?_
     exact fin _ (by rw [hpf,h1,h2]; rfl)
    rw [h2] at e2
    refine zbq (zc hgx (zc hgy (zc hw1 (zc hw2 (zc h1' (zc e2 hw3)))))) ?_
    refine zap.next hlt ⟨rfl,⟨_,rfl⟩, ?_, ?_⟩
    ·rw [hpf,h1,h2,zdk hx]; rfl
    ·intro q2 hq2
     rw [zdk hx] at hq2
     cases hq2; exact hc0
 ·have hd : decide ((k : Int) < (l.length : Int)) = false := by simp; omega
  rw [List.drop_eq_nil_of_le (by omega)] at hpf
  refine gq2 (zc hd hlen) ?_
  refine zK hl ?_
  exact fin _ hpf
theorem c_r7Leaves {σ : List zg} {l : List zbe} (hl0 : l.length ≤ 1073741824) (hp : ∀ p ∈ l,zje p) {K : KT} (hK : K (.d (.slice (zdo (l.map zaz)))) σ) : zq Tryz.prog zkD [.d (.slice (zcA l))] σ K := by
 refine zec e_r09_Leaves fun hl => ?_
 have hlen : (zcA l).length = l.length := List.length_map ..
 simp only [zpK,iN,bT,bF,eN]
 refine zaO l.length (fun k vs s => vs = [.own σ.length (zdo ((l.take k).map zaz)), .d (.int .i64 k)] ∧ ∃ T,s = σ ++ (.tok 1 k :: T)) (.tok 0 [] 1 rfl (by simp) (.refl _ _)) ⟨by simp, [],rfl⟩ ?_
 rintro k vs s hk ⟨rfl,T,rfl⟩
 by_cases hlt : k < l.length
 ·have hd : decide ((k : Int) < (l.length : Int)) = true := by simp; omega
  have hx : l[k]? = some l[k] := by simp [hlt]
  have hpx := hp _ (List.getElem_mem hlt)
  have hgx := zU (f := zoB) hx
  obtain ⟨p,hpe⟩ : ∃ p,l[k] = p := ⟨_,rfl⟩
  rw [hpe] at hx hgx hpx
  have hnx : zdo ((l.take k).map zaz) ++ [[D.slice (bcs (zaz p))]] = zdo ((l.take (k + 1)).map zaz) := by
   rw [List.take_add_one,hx]; simp
  have hk2 : (zdo ((l.take k).map zaz)).length = k := by simp; omega
  refine gq2 (zc hd (zc hgx hlen)) ?_
  refine ztO hpx ?_
  refine gq2 (zc hk2 (zc hnx (wki k (by omega)))) ?_
  exact zap.next hlt ⟨rfl,_,rfl⟩
 ·have hd : decide ((k : Int) < (l.length : Int)) = false := by simp; omega
  rw [List.take_of_length_le (by omega)]
  refine gq2 (zc hd hlen) ?_
  refine zK hl ?_
  exact hK
theorem c_blLeaves {σ : List zg} {l : List zbe} (hl0 : l.length ≤ 1073741824) (hp : ∀ p ∈ l,zje p) {K : KT} (hK : K (.d (.slice (zdo (l.map zaz)))) σ) : zq Tryz.prog zig [.d (.slice (zcA l))] σ K := by
 refine zec zsQ fun hl => ?_
 have hlen : (zcA l).length = l.length := List.length_map ..
 simp only [zmt,iN,bT,bF,eN]
 refine gq2 hlen ?_
 refine zaO l.length (fun k vs s => vs = [.own σ.length (zdo ((l.take k).map zaz)), .d (.int .i64 k)] ∧ ∃ T,s = σ ++ (.tok 1 k :: T)) (.tok 0 [] 1 rfl (by simp) (.refl _ _)) ⟨by simp, [],rfl⟩ ?_
 rintro k vs s hk ⟨rfl,T,rfl⟩
 by_cases hlt : k < l.length
 ·have hd : decide ((k : Int) < (l.length : Int)) = true := by simp; omega
  have hx : l[k]? = some l[k] := by simp [hlt]
  have hpx := hp _ (List.getElem_mem hlt)
  have hgx := zU (f := zoB) hx
  obtain ⟨p,hpe⟩ : ∃ p,l[k] = p := ⟨_,rfl⟩
  rw [hpe] at hx hgx hpx
  have hnx : zdo ((l.take k).map zaz) ++ [[D.slice (bcs (zaz p))]] = zdo ((l.take (k + 1)).map zaz) := by
   rw [List.take_add_one,hx]; simp
  have hk2 : (zdo ((l.take k).map zaz)).length = k := by simp; omega
  refine gq2 (zc hd (zc hgx hlen)) ?_
  refine ztI hpx ?_
  refine gq2 (zc hk2 (zc hnx (wki k (by omega)))) ?_
  exact zap.next hlt ⟨rfl,_,rfl⟩
 ·have hd : decide ((k : Int) < (l.length : Int)) = false := by simp; omega
  rw [List.take_of_length_le (by omega)]
  refine gq2 (zc hd hlen) ?_
  refine zK hl ?_
  exact hK
def hdigE (L : List (List UInt8)) (h : zdW) : Int := if zaA h ≠ 0 then zaA h else if zee L (zsH h) = 0 then 6 else 0
def zsI (L : List (List UInt8)) (h : zdW) : Int := if zaA h ≠ 0 then 0 else zee L (zsH h)
def zgk (L : List (List UInt8)) (h : zdW) : List (List UInt8) := if zaA h ≠ 0 then L else zfe L (zsH h)
theorem zpi {σ : List zg} {id : Nat} {L : List (List UInt8)} {h : zdW} (hT : σ[id]? = some (rtO L)) (hL : L.length ≤ 1048576) {K : KT}
  (hK : K (.tup [.d (.int .i64 (zsI L h)), .d (.int .i64 (hdigE L h))]) (σ.set id (rtO (zgk L h)))) : zq Tryz.prog zhO [.box id 0,ztt h] σ K := by
 refine zga e_r09_Digest fun hl => ?_
 simp only [zpL,iN,bT,bF,eN,ztt]
 refine gq1 ?_
 refine zrR (h := h) ?_
 cases hc : (zaA h == 0)
 ·have hc' : (zaA h != 0) = true := by simpa using hc
  have hc0 : zaA h ≠ 0 := by simpa using hc
  simp only [hdigE,zsI,zgk,if_pos hc0] at hK
  rw [zby hT] at hK
  refine gq2 hc' ?_
  refine zK hl ?_
  exact hK
 have hc0 : zaA h = 0 := by simpa using hc
 have hbl := hdrB_len (zdg.1 hc0)
 simp only [hdigE,zsI,zgk,hc0,ne_eq,not_true_eq_false,if_false] at hK
 rw [znA hc0,hc0]
 refine gq2 (show ((0 : Int) != 0) = false from rfl) ?_
 refine zjC (zf hT) (by omega) hL ?_
 rw [zbz hT]
 have hl1 : zdY σ.length (σ.set id (rtO (zfe L (zsH h)))) := hl.setO (zfn _ _)
 have hs1 : (σ.set id (rtO (zfe L (zsH h)))).length = σ.length := by simp
 obtain ⟨S1,hS1⟩ : ∃ S1, σ.set id (rtO (zfe L (zsH h))) = S1 := ⟨_,rfl⟩
 rw [hS1] at hK hs1 hl1 ⊢
 by_cases hz : zee L (zsH h) = 0
 ·rw [if_pos hz,hz] at hK
  rw [hz]
  refine gq2 (show ((0 : Int) == 0) = true from rfl) ?_
  refine zcY hs1 ?_ hl1 ?_
  ·simp [zcO,dmT,dm,dm1,zbY,zbf,zdZ]
  ·exact hK
 ·have hq : (zee L (zsH h) == 0) = false := by simpa using hz
  rw [if_neg hz] at hK
  refine gq2 hq ?_
  refine zcY hs1 ?_ hl1 ?_
  ·simp [zcO,dmT,dm,dm1,zbY,zbf,zdZ]
  ·exact hK
end Go.Proofs.YtfjommppajkpoaaGreat
