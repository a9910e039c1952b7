/- Contracts: whether a proof may be, the document's. -/
import Derived.Test.YtfjommppajkpoaaGreatPt2
import Derived.Test.YtfjommppajkpoaaGreatOp1
set_option linter.all false
set_option maxRecDepth 100000
namespace Go.Proofs.YtfjommppajkpoaaGreat
open Go.AW
theorem c_kIn {σ : List zg} {n lo hi : Int} {K : KT} (hK : K (.d (.int .i64 (inE n lo hi))) σ) : zq Tryz.prog zjk [.d (.int .i64 n), .d (.int .i64 lo), .d (.int .i64 hi)] σ K := by
 refine acE3 e_r10_in fun hl => ?_
 have fin : ∀ z,inE n lo hi = z → K (.d (.int .i64 z)) σ := fun z h => h ▸ hK
 clear hK
 simp only [S_r10_in,iN,bT,bF,eN]
 cases h1 : decide (n < lo)
 ·cases h2 : decide (n > hi)
  ·refine zcJ (zbi h1 h2) ?_
   refine zK hl ?_
   exact fin 0 (by rw [inE,if_neg]; simp at h1 h2; omega)
  ·refine zcJ (zbi h1 h2) ?_
   refine zK hl ?_
   exact fin 100 (by rw [inE,if_pos]; simp at h1 h2; omega)
 ·refine zcJ h1 ?_
  refine zK hl ?_
  exact fin 100 (by rw [inE,if_pos]; simp at h1; omega)
theorem znT {σ : List zg} {n : Int} {K : KT} (hK : K (.d (.int .i64 (zhH n))) σ) : zq Tryz.prog zdB [.d (.int .i64 n)] σ K := by
 refine zec e_r10_num fun hl => ?_
 simp only [S_r10_num,iN,bT,bF,eN]
 refine zhJ ?_
 refine c_kIn ?_
 refine zhJ ?_
 refine zK hl ?_
 exact hK
theorem c_kPos {σ : List zg} {n : Int} {K : KT} (hK : K (.d (.int .i64 (posE n))) σ) : zq Tryz.prog zqY [.d (.int .i64 n)] σ K := by
 refine zec e_r10_pos fun hl => ?_
 simp only [S_r10_pos,iN,bT,bF,eN]
 refine zhJ ?_
 refine c_kIn ?_
 refine zhJ ?_
 refine zK hl ?_
 exact hK
theorem c_kName {σ : List zg} {x : List UInt8} (hx : x.length ≤ 1073741824) {K : KT} (hK : K (.d (.int .i64 (zsC x))) σ) : zq Tryz.prog zoH [.d (.str x)] σ K := by
 refine zec e_r10_name fun hl => ?_
 have fin : ∀ z,zsC x = z → K (.d (.int .i64 z)) σ := fun z h => h ▸ hK
 clear hK
 simp only [zub,iN,bT,bF,eN]
 refine zhJ ?_
 refine c_rName hx ?_
 cases h : zeL x
 ·refine zhJ ?_
  refine zK hl ?_
  exact fin 61 (by rw [zsC,if_neg (by simp [h])])
 ·refine zhJ ?_
  refine zK hl ?_
  exact fin 0 (by rw [zsC,if_pos h])
theorem fst_drop {l : List Int} {k : Nat} {x : Int} (hx : l[k]? = some x) : zbV (l.drop k) = if x ≠ 0 then x else zbV (l.drop (k + 1)) := by
 have hk : k < l.length := (List.getElem?_eq_some_iff.1 hx).1
 rw [List.drop_eq_getElem_cons hk,(List.getElem?_eq_some_iff.1 hx).2]
 rfl
theorem zqz {σ : List zg} {l : List Int} (hl0 : l.length ≤ 1073741824) {K : KT} (hK : K (.d (.int .i64 (zbV l))) σ) : zq Tryz.prog zfr [.d (.slice (zbd l))] σ K := by
 refine zec e_r10_first fun hl => ?_
 have fin : ∀ z,zbV l = z → K (.d (.int .i64 z)) σ := fun z h => h ▸ hK
 clear hK
 have hlen : (zbd l).length = l.length := List.length_map ..
 simp only [zsf,iN,bT,bF,eN]
 refine zw l.length (fun k vs s => vs = [.d (.int .i64 k)] ∧ s = σ ∧ zbV l = zbV (l.drop k)) ⟨rfl,rfl,by simp⟩ ?_
 rintro k vs s hk ⟨rfl,rfl,hpf⟩
 by_cases hlt : k < l.length
 ·have hd : decide ((k : Int) < (l.length : Int)) = true := by simp; omega
  have hx : l[k]? = some l[k] := by simp [hlt]
  have hgx := zU (f := fun t => [D.int .i64 t]) hx
  obtain ⟨x,hxe⟩ : ∃ x,l[k] = x := ⟨_,rfl⟩
  rw [hxe] at hx hgx
  rw [fst_drop hx] at hpf
  cases h1 : (x != 0)
  ·rw [if_neg (by simpa using h1)] at hpf
   refine zcJ (zbi hd (zbi hgx (zbi hlen (zbi h1 (wkc k (by omega)))))) ?_
   exact zap.next hlt ⟨rfl,rfl,hpf⟩
  ·rw [if_pos (by simpa using h1)] at hpf
   refine zcJ (zbi hd (zbi hgx (zbi hlen h1))) ?_
   refine zK hl ?_
   exact fin _ hpf
 ·have hd : decide ((k : Int) < (l.length : Int)) = false := by simp; omega
  rw [List.drop_eq_nil_of_le (by omega)] at hpf
  refine zcJ (zbi hd hlen) ?_
  refine zK hl ?_
  exact fin _ hpf
theorem c_kSigns {σ : List zg} {l : List zI} (hl0 : l.length ≤ 1073741824) {K : KT} (hK : K (.d (.int .i64 (zbV (zeH l)))) σ) : zq Tryz.prog zjj [.d (.slice (zas l))] σ K := by
 refine zec e_r10_signs fun hl => ?_
 have fin : ∀ z,zbV (zeH l) = z → K (.d (.int .i64 z)) σ := fun z h => h ▸ hK
 clear hK
 have hlen : (zas l).length = l.length := List.length_map ..
 simp only [zse,iN,bT,bF,eN]
 cases h0 : decide ((l.length : Int) > 13)
 rotate_left
 ·refine zcJ (zbi hlen h0) ?_
  refine zK hl ?_
  refine fin 100 ?_
  have : inE l.length 0 13 = 100 := by rw [inE,if_pos]; simp at h0; omega
  simp [zeH,zbV,this]
 refine zcJ (zbi hlen h0) ?_
 have e0 : zbV (zeH l) = zbV (l.map fun s => zab s.key s.dig) := by
  have : inE l.length 0 13 = 0 := by rw [inE,if_neg]; simp at h0; omega
  simp [zeH,zbV,this]
 refine zw l.length (fun k vs s => vs = [.d (.int .i64 k)] ∧ s = σ ∧ zbV (zeH l) = zbV ((l.map fun s => zab s.key s.dig).drop k)) ⟨rfl,rfl,by simpa using e0⟩ ?_
 rintro k vs s hk ⟨rfl,rfl,hpf⟩
 by_cases hlt : k < l.length
 ·have hd : decide ((k : Int) < (l.length : Int)) = true := by simp; omega
  have hx : l[k]? = some l[k] := by simp [hlt]
  have hgx := zU (f := zfI) hx
  obtain ⟨x,hxe⟩ : ∃ x,l[k] = x := ⟨_,rfl⟩
  rw [hxe] at hx hgx
  rw [fst_drop (x := zab x.key x.dig) (by simp [hx])] at hpf
  refine gq28 (zbi hd (zbi hgx hlen)) ?_
  refine zij ?_
  cases h1 : (zab x.key x.dig != 0)
  ·rw [if_neg (by simpa using h1)] at hpf
   refine zcJ (zbi h1 (wkc k (by omega))) ?_
   exact zap.next hlt ⟨rfl,rfl,hpf⟩
  ·rw [if_pos (by simpa using h1)] at hpf
   refine zcJ h1 ?_
   refine zK hl ?_
   exact fin _ hpf
 ·have hd : decide ((k : Int) < (l.length : Int)) = false := by simp; omega
  rw [List.drop_eq_nil_of_le (by simp; omega)] at hpf
  refine zcJ (zbi hd hlen) ?_
  refine zK hl ?_
  exact fin _ hpf
theorem c_kCert {σ : List zg} {c : zfV} (hl0 : c.signs.length ≤ 1073741824) {K : KT} (hK : K (.d (.int .i64 (zbV (zeX c)))) σ) : zq Tryz.prog zhh [ziN c] σ K := by
 refine zec zru fun hl => ?_
 have fin : ∀ z,zbV (zeX c) = z → K (.d (.int .i64 z)) σ := fun z h => h ▸ hK
 clear hK
 have hlen : (zas c.signs).length = c.signs.length := List.length_map ..
 simp only [zlf,iN,bT,bF,eN,ziN]
 refine zhJ ?_
 refine znT ?_
 refine zhJ ?_
 refine znT ?_
 refine zhJ ?_
 refine zqz (l := [zhH c.seq,zhH c.dig]) (by simp) ?_
 have e2 : zbV (zeX c) = if zbV [zhH c.seq,zhH c.dig] ≠ 0 then zbV [zhH c.seq,zhH c.dig] else zbV (zcZ c :: zeH c.signs) := by
  rw [← zfG]; rfl
 cases h1 : (zbV [zhH c.seq,zhH c.dig] != 0)
 rotate_left
 ·refine zcJ h1 ?_
  refine zK hl ?_
  exact fin _ (by rw [e2,if_pos (by simpa using h1)])
 have h1' : zbV [zhH c.seq,zhH c.dig] = 0 := by simpa using h1
 rw [if_neg (by simpa using h1)] at e2
 have hs : zhH c.seq = 0 := by
  simp only [zbV] at h1'; split at h1'
  ·rename_i h; exact absurd h1' h
  ·rename_i h; simpa using h
 have hsq := numE_0 hs
 have yes : zcZ c = 0 → zq Tryz.prog zjj [.d (.slice (zas c.signs))] (σ ++ [zg.box [AV.d (D.int .i64 c.seq),AV.d (D.int .i64 c.dig),AV.d (D.slice (zas c.signs))]]) fun G s => z1 (AW.Ends σ.length K) G s := fun h => by
  refine c_kSigns hl0 ?_
  refine zhJ ?_
  refine zK hl ?_
  refine fin _ ?_
  rw [e2]; simp [zbV,h]
 have no : zcZ c = 100 → zbV (zeX c) = 100 := fun h => by rw [e2]; simp [zbV,h]
 cases h2 : (c.seq == 0)
 ·have h2' : ¬ c.seq = 0 := by simpa using h2
  have h3 : decide (c.seq > 0) = true := by simp; omega
  cases h4 : (c.dig == 0)
  ·refine zcJ (zbi h1 (zbi h2 (zbi h3 h4))) ?_
   exact yes (by simp at h4; simp [zcZ,h2',h4])
  ·refine zcJ (zbi h1 (zbi h2 (zbi h3 h4))) ?_
   refine zK hl ?_
   exact fin 100 (no (by simp at h4; simp [zcZ,h2',h4]))
 ·have h2' : c.seq = 0 := by simpa using h2
  have h3 : decide (c.seq > 0) = false := by simp; omega
  cases h4 : (c.dig != 0)
  ·cases h5 : decide ((c.signs.length : Int) > 0)
   ·refine zcJ (zbi h1 (zbi h2 (zbi h3 (zbi h4 (zbi hlen h5))))) ?_
    exact yes (by simp at h4 h5; simp [zcZ,h2',h4,h5])
   ·refine zcJ (zbi h1 (zbi h2 (zbi h3 (zbi h4 (zbi hlen h5))))) ?_
    refine zK hl ?_
    refine fin 100 (no ?_)
    simp only [decide_eq_true_eq] at h5
    rw [zcZ,if_pos (.inr ⟨h2',by omega⟩)]
  ·refine zcJ (zbi h1 (zbi h2 (zbi h3 h4))) ?_
   refine zK hl ?_
   exact fin 100 (no (by simp at h4; simp [zcZ,h2',h4]))
theorem c_kHdr {σ : List zg} {h : zdW} {K : KT} (hK : K (.d (.int .i64 (zbV (zgv h)))) σ) : zq Tryz.prog zfs [ztt h] σ K := by
 refine zec zpa fun hl => ?_
 simp only [ziR,iN,bT,bF,eN,ztt]
 refine zhJ ?_
 refine c_kPos ?_
 refine zhJ ?_
 refine znT ?_
 refine zhJ ?_
 refine znT ?_
 refine zhJ ?_
 refine znT ?_
 refine zhJ ?_
 refine znT ?_
 refine zhJ ?_
 refine zqz (l := zgv h) (by simp [zgv]) ?_
 refine zhJ ?_
 refine zK hl ?_
 exact hK
theorem c_kProof {σ : List zg} {p : zaE} (hp : zdy p) {K : KT} (hK : K (.d (.int .i64 (zbW p))) σ) : zq Tryz.prog zge [zcp p] σ K := by
 refine zec zqf fun hl => ?_
 have fin : ∀ z,zbW p = z → K (.d (.int .i64 z)) σ := fun z h => h ▸ hK
 clear hK
 have hrl := zaH p.rec_
 have hhl : (zdf p.headers).length = p.headers.length := List.length_map ..
 have hpl : (zbd p.path).length = p.path.length := List.length_map ..
 simp only [zjP,iN,bT,bF,eN,zcp]
 refine zcJ (zbi hrl hhl) ?_
 refine c_kName (by have := hp.topic; omega) ?_
 refine zhJ ?_
 refine znT ?_
 refine zhJ ?_
 refine c_kIn ?_
 refine zhJ ?_
 refine c_kIn ?_
 refine zhJ ?_
 refine zqz (l := zef p) (by simp [zef]) ?_
 cases h1 : (zbV (zef p) != 0)
 rotate_left
 ·refine zcJ h1 ?_
  refine zK hl ?_
  exact fin _ (by rw [zbW,znp,zkO (by simpa using h1)])
 have e1 : zbW p = zbV ((p.headers.map zgv).flatten ++ (zbg p ++ (zdz p ++ (p.path.map zhH ++ zeX p.cert)))) := by
  rw [zbW,znp,zrm (by simpa using h1)]
 obtain ⟨Q,hQ⟩ : ∃ Q,zbg p ++ (zdz p ++ (p.path.map zhH ++ zeX p.cert)) = Q := ⟨_,rfl⟩
 rw [hQ] at e1
 refine zcJ h1 ?_
 refine zw p.headers.length (fun k vs s => vs = [.d (.int .i64 k)] ∧ s = σ ++ [zhe p] ∧ zbW p = zbV (((p.headers.drop k).map zgv).flatten ++ Q)) ⟨rfl,rfl,by simpa using e1⟩ ?_
 rintro k vs s hk ⟨rfl,rfl,hpf⟩
 by_cases hlt : k < p.headers.length
 ·have hd : decide ((k : Int) < (p.headers.length : Int)) = true := by simp; omega
  have hx : p.headers[k]? = some p.headers[k] := by simp [hlt]
  have hgx := zU (f := zuJ) hx
  have hdr : p.headers.drop k = p.headers[k] :: p.headers.drop (k + 1) := List.drop_eq_getElem_cons hlt
  obtain ⟨h,hhe⟩ : ∃ h,p.headers[k] = h := ⟨_,rfl⟩
  rw [hhe] at hx hgx hdr
  have hph := hp.headers
  rw [hdr,List.map_cons,List.flatten_cons,List.append_assoc,zfG] at hpf
  refine zcJ (zbi hd (zbi hgx hhl)) ?_
  refine c_kHdr (h := h) ?_
  cases h2 : (zbV (zgv h) != 0)
  ·rw [if_neg (by simpa using h2)] at hpf
   refine zcJ (zbi h2 (wkc k (by omega))) ?_
   exact zap.next hlt ⟨rfl,rfl,hpf⟩
  ·rw [if_pos (by simpa using h2)] at hpf
   refine zcJ h2 ?_
   refine zK hl ?_
   exact fin _ hpf
 ·have hd : decide ((k : Int) < (p.headers.length : Int)) = false := by simp; omega
  rw [List.drop_eq_nil_of_le (by omega),List.map_nil,List.flatten_nil,List.nil_append, ← hQ] at hpf
  refine zcJ (zbi hd hhl) ?_
  refine znT ?_
  refine zhJ ?_
  refine c_kIn ?_
  refine zhJ ?_
  refine zqz (l := zbg p) (by simp [zbg]) ?_
  cases h2 : (zbV (zbg p) != 0)
  rotate_left
  ·refine zcJ h2 ?_
   refine zK hl ?_
   exact fin _ (by rw [hpf,zkO (by simpa using h2)])
  have h2' : zbV (zbg p) = 0 := by simpa using h2
  rw [zrm h2'] at hpf
  have hix : zhH p.index = 0 ∧ inE p.count 0 16 = 0 := by
   simp only [zbg,zbV] at h2'
   split at h2'
   ·rename_i h; exact absurd h2' h
   ·rename_i h
    split at h2'
    ·rename_i h3; exact absurd h2' h3
    ·rename_i h3; exact ⟨by simpa using h,by simpa using h3⟩
  have i1 := numE_0 hix.1
  have i2 := inE_0 hix.2
  have bad : (p.index ≥ p.count ∨ (p.path.length : Int) > 8) → zbV (zdz p) = 100 := fun h => by
   simp only [zdz,zbV]
   by_cases hh : p.index ≥ p.count
   ·have : inE p.index 0 (p.count - 1) = 100 := by rw [inE,if_pos]; omega
    simp [this]
   ·have a : inE p.index 0 (p.count - 1) = 0 := by rw [inE,if_neg]; omega
    have b : inE p.path.length 0 8 = 100 := by rw [inE,if_pos]; omega
    simp [a,b]
  cases h3 : decide (p.index ≥ p.count)
  rotate_left
  ·refine zcJ (zbi h2 h3) ?_
   refine zK hl ?_
   refine fin _ ?_
   have := bad (.inl (by simpa using h3))
   rw [hpf,zkO (by rw [this]; decide),this]
  cases h4 : decide ((p.path.length : Int) > 8)
  rotate_left
  ·refine zcJ (zbi h2 (zbi h3 (zbi hpl h4))) ?_
   refine zK hl ?_
   refine fin _ ?_
   have := bad (.inr (by simpa using h4))
   rw [hpf,zkO (by rw [this]; decide),this]
  have h5 : zbV (zdz p) = 0 := by
   simp only [decide_eq_false_iff_not] at h3 h4
   have a : inE p.index 0 (p.count - 1) = 0 := by rw [inE,if_neg]; omega
   have b : inE p.path.length 0 8 = 0 := by rw [inE,if_neg]; omega
   simp [zdz,zbV,a,b]
  rw [zrm h5] at hpf
  refine zcJ (zbi h2 (zbi h3 (zbi hpl h4))) ?_
  have hpb := hp.path
  refine zw p.path.length (fun k vs s => vs = [.d (.int .i64 k)] ∧ s = σ ++ [zhe p] ∧ zbW p = zbV ((p.path.drop k).map zhH ++ zeX p.cert)) ⟨rfl,rfl,by simpa using hpf⟩ ?_
  rintro j vs s hj ⟨rfl,rfl,hpf2⟩
  by_cases hjl : j < p.path.length
  ·have hd2 : decide ((j : Int) < (p.path.length : Int)) = true := by simp; omega
   have hy : p.path[j]? = some p.path[j] := by simp [hjl]
   have hgy := zU (f := fun t => [D.int .i64 t]) hy
   have hdr : p.path.drop j = p.path[j] :: p.path.drop (j + 1) := List.drop_eq_getElem_cons hjl
   obtain ⟨y,hye⟩ : ∃ y,p.path[j] = y := ⟨_,rfl⟩
   rw [hye] at hy hgy hdr
   rw [hdr,List.map_cons,List.cons_append] at hpf2
   simp only [zbV] at hpf2
   refine zcJ (zbi hd2 (zbi hgy hpl)) ?_
   refine znT ?_
   cases h6 : (zhH y != 0)
   ·rw [if_neg (by simpa using h6)] at hpf2
    refine zcJ (zbi h6 (wkc j (by omega))) ?_
    exact zap.next hjl ⟨rfl,rfl,hpf2⟩
   ·rw [if_pos (by simpa using h6)] at hpf2
    refine zcJ h6 ?_
    refine zK hl ?_
    exact fin _ hpf2
  ·have hd2 : decide ((j : Int) < (p.path.length : Int)) = false := by simp; omega
   rw [List.drop_eq_nil_of_le (by omega),List.map_nil,List.nil_append] at hpf2
   refine zcJ (zbi hd2 hpl) ?_
   refine c_kCert (c := p.cert) hp.signs ?_
   refine zhJ ?_
   refine zK hl ?_
   exact fin _ hpf2
end Go.Proofs.YtfjommppajkpoaaGreat
