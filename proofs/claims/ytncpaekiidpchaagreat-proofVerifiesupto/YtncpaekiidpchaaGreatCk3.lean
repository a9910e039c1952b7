/- Contracts: whether a proof may be, the document's. -/
import Derived.Test.YtncpaekiidpchaaGreatPt2
import Derived.Test.YtncpaekiidpchaaGreatOp1
set_option linter.all false
set_option maxRecDepth 100000
namespace Go.Proofs.YtncpaekiidpchaaGreat
open Go.AW
theorem c_kIn {σ : List zh} {n lo hi : Int} {K : KT} (hK : K (.d (.int .i64 (inE n lo hi))) σ) : zy Tryz.prog zjS [.d (.int .i64 n), .d (.int .i64 lo), .d (.int .i64 hi)] σ K := by
 refine zi e_r10_in.is rfl fun hl _ => e_r10_in.goes ?_
 have fin : ∀ z,inE n lo hi = z → K (.d (.int .i64 z)) σ := fun z h => h ▸ hK
 clear hK
 simp only [S_r10_in,iN,bT,bF,eN]
 cases h1 : decide (n < lo)
 ·cases h2 : decide (n > hi)
  ·(repeat' first | refine zcY (zbz h1 h2) ?_ | with_reducible first | exact ⟨⟩ | refine zg ?_ | fail)
   (first | refine zX hl ?_ | refine zW hl ?_)
   exact fin 0 (by rw [inE,if_neg]; simp at h1 h2; omega)
  ·(repeat' first | refine zcY (zbz h1 h2) ?_ | with_reducible first | exact ⟨⟩ | refine zg ?_ | fail)
   (first | refine zX hl ?_ | refine zW hl ?_)
   exact fin 100 (by rw [inE,if_pos]; simp at h1 h2; omega)
 ·(repeat' first | refine zcY h1 ?_ | with_reducible first | exact ⟨⟩ | refine zg ?_ | fail)
  (first | refine zX hl ?_ | refine zW hl ?_)
  exact fin 100 (by rw [inE,if_pos]; simp at h1; omega)
theorem zos {σ : List zh} {n : Int} {K : KT} (hK : K (.d (.int .i64 (zhZ n))) σ) : zy Tryz.prog zdM [.d (.int .i64 n)] σ K := by
 refine zi e_r10_num.is rfl fun hl _ => e_r10_num.goes ?_
 simp only [S_r10_num,iN,bT,bF,eN]
 (repeat' first | refine zib ?_ | with_reducible first | exact ⟨⟩ | refine zg ?_ | fail)
 refine c_kIn ?_
 (repeat' first | refine zib ?_ | with_reducible first | exact ⟨⟩ | refine zg ?_ | fail)
 (first | refine zX hl ?_ | refine zW hl ?_)
 exact hK
theorem c_kPos {σ : List zh} {n : Int} {K : KT} (hK : K (.d (.int .i64 (posE n))) σ) : zy Tryz.prog zrx [.d (.int .i64 n)] σ K := by
 refine zi e_r10_pos.is rfl fun hl _ => e_r10_pos.goes ?_
 simp only [S_r10_pos,iN,bT,bF,eN]
 (repeat' first | refine zib ?_ | with_reducible first | exact ⟨⟩ | refine zg ?_ | fail)
 refine c_kIn ?_
 (repeat' first | refine zib ?_ | with_reducible first | exact ⟨⟩ | refine zg ?_ | fail)
 (first | refine zX hl ?_ | refine zW hl ?_)
 exact hK
theorem c_kName {σ : List zh} {x : List UInt8} (hx : x.length ≤ 1073741824) {K : KT} (hK : K (.d (.int .i64 (zta x))) σ) : zy Tryz.prog zph [.d (.str x)] σ K := by
 refine zi zub.is rfl fun hl _ => zub.goes ?_
 have fin : ∀ z,zta x = z → K (.d (.int .i64 z)) σ := fun z h => h ▸ hK
 clear hK
 simp only [zuO,iN,bT,bF,eN]
 (repeat' first | refine zib ?_ | with_reducible first | exact ⟨⟩ | refine zg ?_ | fail)
 refine c_rName hx ?_
 cases h : zeY x
 ·(repeat' first | refine zib ?_ | with_reducible first | exact ⟨⟩ | refine zg ?_ | fail)
  (first | refine zX hl ?_ | refine zW hl ?_)
  exact fin 61 (by rw [zta,if_neg (by simp [h])])
 ·(repeat' first | refine zib ?_ | with_reducible first | exact ⟨⟩ | refine zg ?_ | fail)
  (first | refine zX hl ?_ | refine zW hl ?_)
  exact fin 0 (by rw [zta,if_pos h])
theorem fst_drop {l : List Int} {k : Nat} {x : Int} (hx : l[k]? = some x) : zcc (l.drop k) = if x ≠ 0 then x else zcc (l.drop (k + 1)) := by
 have hk : k < l.length := (List.getElem?_eq_some_iff.1 hx).1
 rw [List.drop_eq_getElem_cons hk,(List.getElem?_eq_some_iff.1 hx).2]
 rfl
theorem zqZ {σ : List zh} {l : List Int} (hl0 : l.length ≤ 1073741824) {K : KT} (hK : K (.d (.int .i64 (zcc l))) σ) : zy Tryz.prog zfA [.d (.slice (zaX l))] σ K := by
 refine zi zrU.is rfl fun hl _ => zrU.goes ?_
 have fin : ∀ z,zcc l = z → K (.d (.int .i64 z)) σ := fun z h => h ▸ hK
 clear hK
 have hlen : (zaX l).length = l.length := List.length_map ..
 simp only [zsF,iN,bT,bF,eN]
 refine zB l.length (fun k vs s => vs = [.d (.int .i64 k)] ∧ s = σ ∧ zcc l = zcc (l.drop k)) ⟨rfl,rfl,by simp⟩ ?_
 rintro k vs s hk ⟨rfl,rfl,hpf⟩
 by_cases hlt : k < l.length
 ·have hd : decide ((k : Int) < (l.length : Int)) = true := by simp; omega
  have hx : l[k]? = some l[k] := by simp [hlt]
  have hgx := zU (f := fun t => [D.int .i64 t]) hx
  obtain ⟨x,hxe⟩ : ∃ x,l[k] = x := ⟨_,rfl⟩
  rw [hxe] at hx hgx
  rw [fst_drop hx] at hpf
  cases h1 : (x != 0)
  ·rw [if_neg (by simpa using h1)] at hpf
   (repeat' first | refine zcY (zbz hd (zbz hgx (zbz hlen (zbz h1 (wkc k (by omega)))))) ?_ | with_reducible first | exact ⟨⟩ | refine zg ?_ | fail)
   exact zap.next hlt ⟨rfl,rfl,hpf⟩
  ·rw [if_pos (by simpa using h1)] at hpf
   (repeat' first | refine zcY (zbz hd (zbz hgx (zbz hlen h1))) ?_ | with_reducible first | exact ⟨⟩ | refine zg ?_ | fail)
   (first | refine zX hl ?_ | refine zW hl ?_)
   exact fin _ hpf
 ·have hd : decide ((k : Int) < (l.length : Int)) = false := by simp; omega
  rw [List.drop_eq_nil_of_le (by omega)] at hpf
  (repeat' first | refine zcY (zbz hd hlen) ?_ | with_reducible first | exact ⟨⟩ | refine zg ?_ | fail)
  (first | refine zX hl ?_ | refine zW hl ?_)
  exact fin _ hpf
theorem c_kSigns {σ : List zh} {l : List zS} (hl0 : l.length ≤ 1073741824) {K : KT} (hK : K (.d (.int .i64 (zcc (zeV l)))) σ) : zy Tryz.prog zjR [.d (.slice (zax l))] σ K := by
 refine zi zrT.is rfl fun hl _ => zrT.goes ?_
 have fin : ∀ z,zcc (zeV l) = z → K (.d (.int .i64 z)) σ := fun z h => h ▸ hK
 clear hK
 have hlen : (zax l).length = l.length := List.length_map ..
 simp only [zsE,iN,bT,bF,eN]
 cases h0 : decide ((l.length : Int) > 13)
 rotate_left
 ·(repeat' first | refine zcY (zbz hlen h0) ?_ | with_reducible first | exact ⟨⟩ | refine zg ?_ | fail)
  (first | refine zX hl ?_ | refine zW hl ?_)
  refine fin 100 ?_
  have : inE l.length 0 13 = 100 := by rw [inE,if_pos]; simp at h0; omega
  simp [zeV,zcc,this]
 (repeat' first | refine zcY (zbz hlen h0) ?_ | with_reducible first | exact ⟨⟩ | refine zg ?_ | fail)
 have e0 : zcc (zeV l) = zcc (l.map fun s => zao s.key s.dig) := by
  have : inE l.length 0 13 = 0 := by rw [inE,if_neg]; simp at h0; omega
  simp [zeV,zcc,this]
 refine zB l.length (fun k vs s => vs = [.d (.int .i64 k)] ∧ s = σ ∧ zcc (zeV l) = zcc ((l.map fun s => zao s.key s.dig).drop k)) ⟨rfl,rfl,by simpa using e0⟩ ?_
 rintro k vs s hk ⟨rfl,rfl,hpf⟩
 by_cases hlt : k < l.length
 ·have hd : decide ((k : Int) < (l.length : Int)) = true := by simp; omega
  have hx : l[k]? = some l[k] := by simp [hlt]
  have hgx := zU (f := zgn) hx
  obtain ⟨x,hxe⟩ : ∃ x,l[k] = x := ⟨_,rfl⟩
  rw [hxe] at hx hgx
  rw [fst_drop (x := zao x.key x.dig) (by simp [hx])] at hpf
  (repeat' first | refine gq34 (zbz hd (zbz hgx hlen)) ?_ | with_reducible first | exact ⟨⟩ | refine zg ?_ | fail)
  refine ziM ?_
  cases h1 : (zao x.key x.dig != 0)
  ·rw [if_neg (by simpa using h1)] at hpf
   (repeat' first | refine zcY (zbz h1 (wkc k (by omega))) ?_ | with_reducible first | exact ⟨⟩ | refine zg ?_ | fail)
   exact zap.next hlt ⟨rfl,rfl,hpf⟩
  ·rw [if_pos (by simpa using h1)] at hpf
   (repeat' first | refine zcY h1 ?_ | with_reducible first | exact ⟨⟩ | refine zg ?_ | fail)
   (first | refine zX hl ?_ | refine zW hl ?_)
   exact fin _ hpf
 ·have hd : decide ((k : Int) < (l.length : Int)) = false := by simp; omega
  rw [List.drop_eq_nil_of_le (by simp; omega)] at hpf
  (repeat' first | refine zcY (zbz hd hlen) ?_ | with_reducible first | exact ⟨⟩ | refine zg ?_ | fail)
  (first | refine zX hl ?_ | refine zW hl ?_)
  exact fin _ hpf
theorem c_kCert {σ : List zh} {c : zfk} (hl0 : c.signs.length ≤ 1073741824) {K : KT} (hK : K (.d (.int .i64 (zcc (zfi c)))) σ) : zy Tryz.prog zho [certA c] σ K := by
 refine zi zlv.is rfl fun hl _ => zlv.goes ?_
 have fin : ∀ z,zcc (zfi c) = z → K (.d (.int .i64 z)) σ := fun z h => h ▸ hK
 clear hK
 have hlen : (zax c.signs).length = c.signs.length := List.length_map ..
 simp only [zlP,iN,bT,bF,eN,certA]
 (repeat' first | refine zib ?_ | with_reducible first | exact ⟨⟩ | refine zg ?_ | fail)
 refine zos ?_
 (repeat' first | refine zib ?_ | with_reducible first | exact ⟨⟩ | refine zg ?_ | fail)
 refine zos ?_
 (repeat' first | refine zib ?_ | with_reducible first | exact ⟨⟩ | refine zg ?_ | fail)
 refine zqZ (l := [zhZ c.seq,zhZ c.dig]) (by simp) ?_
 have e2 : zcc (zfi c) = if zcc [zhZ c.seq,zhZ c.dig] ≠ 0 then zcc [zhZ c.seq,zhZ c.dig] else zcc (zdl c :: zeV c.signs) := by
  rw [← zfO]; rfl
 cases h1 : (zcc [zhZ c.seq,zhZ c.dig] != 0)
 rotate_left
 ·(repeat' first | refine zcY h1 ?_ | with_reducible first | exact ⟨⟩ | refine zg ?_ | fail)
  (first | refine zX hl ?_ | refine zW hl ?_)
  exact fin _ (by rw [e2,if_pos (by simpa using h1)])
 have h1' : zcc [zhZ c.seq,zhZ c.dig] = 0 := by simpa using h1
 rw [if_neg (by simpa using h1)] at e2
 have hs : zhZ c.seq = 0 := by
  simp only [zcc] at h1'; split at h1'
  ·rename_i h; exact absurd h1' h
  ·rename_i h; simpa using h
 have hsq := numE_0 hs
 have yes : zdl c = 0 → zy Tryz.prog zjR [.d (.slice (zax c.signs))] (σ ++ [zh.box [AV.d (D.int .i64 c.seq),AV.d (D.int .i64 c.dig),AV.d (D.slice (zax c.signs))]]) fun G s => z1 (AW.Ends σ.length K) G s := fun h => by
  refine c_kSigns hl0 ?_
  (repeat' first | refine zib ?_ | with_reducible first | exact ⟨⟩ | refine zg ?_ | fail)
  (first | refine zX hl ?_ | refine zW hl ?_)
  refine fin _ ?_
  rw [e2]; simp [zcc,h]
 have no : zdl c = 100 → zcc (zfi c) = 100 := fun h => by rw [e2]; simp [zcc,h]
 cases h2 : (c.seq == 0)
 ·have h2' : ¬ c.seq = 0 := by simpa using h2
  have h3 : decide (c.seq > 0) = true := by simp; omega
  cases h4 : (c.dig == 0)
  ·(repeat' first | refine zcY (zbz h1 (zbz h2 (zbz h3 h4))) ?_ | with_reducible first | exact ⟨⟩ | refine zg ?_ | fail)
   exact yes (by simp at h4; simp [zdl,h2',h4])
  ·(repeat' first | refine zcY (zbz h1 (zbz h2 (zbz h3 h4))) ?_ | with_reducible first | exact ⟨⟩ | refine zg ?_ | fail)
   (first | refine zX hl ?_ | refine zW hl ?_)
   exact fin 100 (no (by simp at h4; simp [zdl,h2',h4]))
 ·have h2' : c.seq = 0 := by simpa using h2
  have h3 : decide (c.seq > 0) = false := by simp; omega
  cases h4 : (c.dig != 0)
  ·cases h5 : decide ((c.signs.length : Int) > 0)
   ·(repeat' first | refine zcY (zbz h1 (zbz h2 (zbz h3 (zbz h4 (zbz hlen h5))))) ?_ | with_reducible first | exact ⟨⟩ | refine zg ?_ | fail)
    exact yes (by simp at h4 h5; simp [zdl,h2',h4,h5])
   ·(repeat' first | refine zcY (zbz h1 (zbz h2 (zbz h3 (zbz h4 (zbz hlen h5))))) ?_ | with_reducible first | exact ⟨⟩ | refine zg ?_ | fail)
    (first | refine zX hl ?_ | refine zW hl ?_)
    refine fin 100 (no ?_)
    simp only [decide_eq_true_eq] at h5
    rw [zdl,if_pos (.inr ⟨h2',by omega⟩)]
  ·(repeat' first | refine zcY (zbz h1 (zbz h2 (zbz h3 h4))) ?_ | with_reducible first | exact ⟨⟩ | refine zg ?_ | fail)
   (first | refine zX hl ?_ | refine zW hl ?_)
   exact fin 100 (no (by simp at h4; simp [zdl,h2',h4]))
theorem c_kHdr {σ : List zh} {h : zeb} {K : KT} (hK : K (.d (.int .i64 (zcc (zgx h)))) σ) : zy Tryz.prog zfB [ztJ h] σ K := by
 refine zi zjk.is rfl fun hl _ => zjk.goes ?_
 simp only [zjy,iN,bT,bF,eN,ztJ]
 (repeat' first | refine zib ?_ | with_reducible first | exact ⟨⟩ | refine zg ?_ | fail)
 refine c_kPos ?_
 (repeat' first | refine zib ?_ | with_reducible first | exact ⟨⟩ | refine zg ?_ | fail)
 refine zos ?_
 (repeat' first | refine zib ?_ | with_reducible first | exact ⟨⟩ | refine zg ?_ | fail)
 refine zos ?_
 (repeat' first | refine zib ?_ | with_reducible first | exact ⟨⟩ | refine zg ?_ | fail)
 refine zos ?_
 (repeat' first | refine zib ?_ | with_reducible first | exact ⟨⟩ | refine zg ?_ | fail)
 refine zos ?_
 (repeat' first | refine zib ?_ | with_reducible first | exact ⟨⟩ | refine zg ?_ | fail)
 refine zqZ (l := zgx h) (by simp [zgx]) ?_
 (repeat' first | refine zib ?_ | with_reducible first | exact ⟨⟩ | refine zg ?_ | fail)
 (first | refine zX hl ?_ | refine zW hl ?_)
 exact hK
theorem c_kProof {σ : List zh} {p : zaW} (hp : zdJ p) {K : KT} (hK : K (.d (.int .i64 (zcd p))) σ) : zy Tryz.prog zgq [zeO p] σ K := by
 refine zi zkp.is rfl fun hl _ => zkp.goes ?_
 have fin : ∀ z,zcd p = z → K (.d (.int .i64 z)) σ := fun z h => h ▸ hK
 clear hK
 have hrl := zea p.rec_
 have hhl : (zcR p.headers).length = p.headers.length := List.length_map ..
 have hpl : (zaX p.path).length = p.path.length := List.length_map ..
 simp only [zkD,iN,bT,bF,eN,zeO]
 (repeat' first | refine zcY (zbz hrl hhl) ?_ | with_reducible first | exact ⟨⟩ | refine zg ?_ | fail)
 refine c_kName (by have := hp.topic; omega) ?_
 (repeat' first | refine zib ?_ | with_reducible first | exact ⟨⟩ | refine zg ?_ | fail)
 refine zos ?_
 (repeat' first | refine zib ?_ | with_reducible first | exact ⟨⟩ | refine zg ?_ | fail)
 refine c_kIn ?_
 (repeat' first | refine zib ?_ | with_reducible first | exact ⟨⟩ | refine zg ?_ | fail)
 refine c_kIn ?_
 (repeat' first | refine zib ?_ | with_reducible first | exact ⟨⟩ | refine zg ?_ | fail)
 refine zqZ (l := zex p) (by simp [zex]) ?_
 cases h1 : (zcc (zex p) != 0)
 rotate_left
 ·(repeat' first | refine zcY h1 ?_ | with_reducible first | exact ⟨⟩ | refine zg ?_ | fail)
  (first | refine zX hl ?_ | refine zW hl ?_)
  exact fin _ (by rw [zcd,znJ,zlp (by simpa using h1)])
 have e1 : zcd p = zcc ((p.headers.map zgx).flatten ++ (zbv p ++ (zdK p ++ (p.path.map zhZ ++ zfi p.cert)))) := by
  rw [zcd,znJ,zrN (by simpa using h1)]
 obtain ⟨Q,hQ⟩ : ∃ Q,zbv p ++ (zdK p ++ (p.path.map zhZ ++ zfi p.cert)) = Q := ⟨_,rfl⟩
 rw [hQ] at e1
 (repeat' first | refine zcY h1 ?_ | with_reducible first | exact ⟨⟩ | refine zg ?_ | fail)
 refine zB p.headers.length (fun k vs s => vs = [.d (.int .i64 k)] ∧ s = σ ++ [zmC p] ∧ zcd p = zcc (((p.headers.drop k).map zgx).flatten ++ Q)) ⟨rfl,rfl,by simpa using e1⟩ ?_
 rintro k vs s hk ⟨rfl,rfl,hpf⟩
 by_cases hlt : k < p.headers.length
 ·have hd : decide ((k : Int) < (p.headers.length : Int)) = true := by simp; omega
  have hx : p.headers[k]? = some p.headers[k] := by simp [hlt]
  have hgx := zU (f := hdrD) hx
  have hdr : p.headers.drop k = p.headers[k] :: p.headers.drop (k + 1) := List.drop_eq_getElem_cons hlt
  obtain ⟨h,hhe⟩ : ∃ h,p.headers[k] = h := ⟨_,rfl⟩
  rw [hhe] at hx hgx hdr
  have hph := hp.headers
  rw [hdr,List.map_cons,List.flatten_cons,List.append_assoc,zfO] at hpf
  (repeat' first | refine zcY (zbz hd (zbz hgx hhl)) ?_ | with_reducible first | exact ⟨⟩ | refine zg ?_ | fail)
  refine c_kHdr (h := h) ?_
  cases h2 : (zcc (zgx h) != 0)
  ·rw [if_neg (by simpa using h2)] at hpf
   (repeat' first | refine zcY (zbz h2 (wkc k (by omega))) ?_ | with_reducible first | exact ⟨⟩ | refine zg ?_ | fail)
   exact zap.next hlt ⟨rfl,rfl,hpf⟩
  ·rw [if_pos (by simpa using h2)] at hpf
   (repeat' first | refine zcY h2 ?_ | with_reducible first | exact ⟨⟩ | refine zg ?_ | fail)
   (first | refine zX hl ?_ | refine zW hl ?_)
   exact fin _ hpf
 ·have hd : decide ((k : Int) < (p.headers.length : Int)) = false := by simp; omega
  rw [List.drop_eq_nil_of_le (by omega),List.map_nil,List.flatten_nil,List.nil_append, ← hQ] at hpf
  (repeat' first | refine zcY (zbz hd hhl) ?_ | with_reducible first | exact ⟨⟩ | refine zg ?_ | fail)
  refine zos ?_
  (repeat' first | refine zib ?_ | with_reducible first | exact ⟨⟩ | refine zg ?_ | fail)
  refine c_kIn ?_
  (repeat' first | refine zib ?_ | with_reducible first | exact ⟨⟩ | refine zg ?_ | fail)
  refine zqZ (l := zbv p) (by simp [zbv]) ?_
  cases h2 : (zcc (zbv p) != 0)
  rotate_left
  ·(repeat' first | refine zcY h2 ?_ | with_reducible first | exact ⟨⟩ | refine zg ?_ | fail)
   (first | refine zX hl ?_ | refine zW hl ?_)
   exact fin _ (by rw [hpf,zlp (by simpa using h2)])
  have h2' : zcc (zbv p) = 0 := by simpa using h2
  rw [zrN h2'] at hpf
  have hix : zhZ p.index = 0 ∧ inE p.count 0 16 = 0 := by
   simp only [zbv,zcc] at h2'
   split at h2'
   ·rename_i h; exact absurd h2' h
   ·rename_i h
    split at h2'
    ·rename_i h3; exact absurd h2' h3
    ·rename_i h3; exact ⟨by simpa using h,by simpa using h3⟩
  have i1 := numE_0 hix.1
  have i2 := inE_0 hix.2
  have bad : (p.index ≥ p.count ∨ (p.path.length : Int) > 8) → zcc (zdK p) = 100 := fun h => by
   simp only [zdK,zcc]
   by_cases hh : p.index ≥ p.count
   ·have : inE p.index 0 (p.count - 1) = 100 := by rw [inE,if_pos]; omega
    simp [this]
   ·have a : inE p.index 0 (p.count - 1) = 0 := by rw [inE,if_neg]; omega
    have b : inE p.path.length 0 8 = 100 := by rw [inE,if_pos]; omega
    simp [a,b]
  cases h3 : decide (p.index ≥ p.count)
  rotate_left
  ·(repeat' first | refine zcY (zbz h2 h3) ?_ | with_reducible first | exact ⟨⟩ | refine zg ?_ | fail)
   (first | refine zX hl ?_ | refine zW hl ?_)
   refine fin _ ?_
   have := bad (.inl (by simpa using h3))
   rw [hpf,zlp (by rw [this]; decide),this]
  cases h4 : decide ((p.path.length : Int) > 8)
  rotate_left
  ·(repeat' first | refine zcY (zbz h2 (zbz h3 (zbz hpl h4))) ?_ | with_reducible first | exact ⟨⟩ | refine zg ?_ | fail)
   (first | refine zX hl ?_ | refine zW hl ?_)
   refine fin _ ?_
   have := bad (.inr (by simpa using h4))
   rw [hpf,zlp (by rw [this]; decide),this]
  have h5 : zcc (zdK p) = 0 := by
   simp only [decide_eq_false_iff_not] at h3 h4
   have a : inE p.index 0 (p.count - 1) = 0 := by rw [inE,if_neg]; omega
   have b : inE p.path.length 0 8 = 0 := by rw [inE,if_neg]; omega
   simp [zdK,zcc,a,b]
  rw [zrN h5] at hpf
  (repeat' first | refine zcY (zbz h2 (zbz h3 (zbz hpl h4))) ?_ | with_reducible first | exact ⟨⟩ | refine zg ?_ | fail)
  have hpb := hp.path
  refine zB p.path.length (fun k vs s => vs = [.d (.int .i64 k)] ∧ s = σ ++ [zmC p] ∧ zcd p = zcc ((p.path.drop k).map zhZ ++ zfi p.cert)) ⟨rfl,rfl,by simpa using hpf⟩ ?_
  rintro j vs s hj ⟨rfl,rfl,hpf2⟩
  by_cases hjl : j < p.path.length
  ·have hd2 : decide ((j : Int) < (p.path.length : Int)) = true := by simp; omega
   have hy : p.path[j]? = some p.path[j] := by simp [hjl]
   have hgy := zU (f := fun t => [D.int .i64 t]) hy
   have hdr : p.path.drop j = p.path[j] :: p.path.drop (j + 1) := List.drop_eq_getElem_cons hjl
   obtain ⟨y,hye⟩ : ∃ y,p.path[j] = y := ⟨_,rfl⟩
   rw [hye] at hy hgy hdr
   rw [hdr,List.map_cons,List.cons_append] at hpf2
   simp only [zcc] at hpf2
   (repeat' first | refine zcY (zbz hd2 (zbz hgy hpl)) ?_ | with_reducible first | exact ⟨⟩ | refine zg ?_ | fail)
   refine zos ?_
   cases h6 : (zhZ y != 0)
   ·rw [if_neg (by simpa using h6)] at hpf2
    (repeat' first | refine zcY (zbz h6 (wkc j (by omega))) ?_ | with_reducible first | exact ⟨⟩ | refine zg ?_ | fail)
    exact zap.next hjl ⟨rfl,rfl,hpf2⟩
   ·rw [if_pos (by simpa using h6)] at hpf2
    (repeat' first | refine zcY h6 ?_ | with_reducible first | exact ⟨⟩ | refine zg ?_ | fail)
    (first | refine zX hl ?_ | refine zW hl ?_)
    exact fin _ hpf2
  ·have hd2 : decide ((j : Int) < (p.path.length : Int)) = false := by simp; omega
   rw [List.drop_eq_nil_of_le (by omega),List.map_nil,List.nil_append] at hpf2
   (repeat' first | refine zcY (zbz hd2 hpl) ?_ | with_reducible first | exact ⟨⟩ | refine zg ?_ | fail)
   refine c_kCert (c := p.cert) hp.signs ?_
   (repeat' first | refine zib ?_ | with_reducible first | exact ⟨⟩ | refine zg ?_ | fail)
   (first | refine zX hl ?_ | refine zW hl ?_)
   exact fin _ hpf2
end Go.Proofs.YtncpaekiidpchaaGreat
