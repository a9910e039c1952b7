/- Contracts: checkpoints' certificates, on both sides. -/
import Derived.Test.YtfjommppajkpoaaGreatAu1
import Derived.Test.YtfjommppajkpoaaGreatAu3
import Derived.Test.YtfjommppajkpoaaGreatSpChk
set_option linter.all false
set_option maxRecDepth 100000
namespace Go.Proofs.YtfjommppajkpoaaGreat
open Go.AW
theorem c_ptZero {σ : List zg} {c : zfV} {K : KT} (hK : K (.d (.bool (zos c))) σ) : zq Tryz.prog zkJ [ziN c] σ K := by
 refine zec e_point_zero fun hl => ?_
 have hlen : (zas c.signs).length = c.signs.length := List.length_map ..
 have fin : ∀ z,zos c = z → K (.d (.bool z)) σ := fun z h => h ▸ hK
 clear hK
 simp only [zpS,iN,bT,bF,eN,ziN]
 cases h1 : (c.seq == 0)
 ·refine gq2 h1 ?_
  refine zK hl ?_
  exact fin _ (by simp [zos,h1])
 cases h2 : (c.dig == 0)
 ·refine gq2 (zc h1 h2) ?_
  refine zK hl ?_
  exact fin _ (by simp [zos,h1,h2])
 refine gq2 (zc h1 (zc h2 hlen)) ?_
 refine zK hl ?_
 exact fin _ (by simp [zos,h1,h2])
theorem c_r14Zero {σ : List zg} {c : zfV} {K : KT} (hK : K (.d (.bool (zos c))) σ) : zq Tryz.prog zoD [ziN c] σ K := by
 refine zec e_r14_zero fun hl => ?_
 have hlen : (zas c.signs).length = c.signs.length := List.length_map ..
 have fin : ∀ z,zos c = z → K (.d (.bool z)) σ := fun z h => h ▸ hK
 clear hK
 simp only [ztW,iN,bT,bF,eN,ziN]
 cases h1 : (c.seq == 0)
 ·refine gq2 h1 ?_
  refine zK hl ?_
  exact fin _ (by simp [zos,h1])
 cases h2 : (c.dig == 0)
 ·refine gq2 (zc h1 h2) ?_
  refine zK hl ?_
  exact fin _ (by simp [zos,h1,h2])
 refine gq2 (zc h1 (zc h2 hlen)) ?_
 refine zK hl ?_
 exact fin _ (by simp [zos,h1,h2])
theorem c_ptMay {σ : List zg} {id : Nat} {f seq d key : Int} {cs : List AV} (hσ : σ[id]? = some (.box (.d (.int .i64 f) :: cs))) {K : KT} (hK : K (.d (.bool (zhI f seq d key))) σ) :
  zq Tryz.prog zeR [.box id 0, .d (.int .i64 seq), .d (.int .i64 d), .d (.int .i64 key)] σ K := by
 refine acE4 znJ fun hl => ?_
 have fin : ∀ z,zhI f seq d key = z → K (.d (.bool z)) σ := fun z h => h ▸ hK
 clear hK
 have e4 : ((4 : Int) == 0) = false := rfl
 simp only [zhX,iN,bT,bF,eN]
 cases h1 : decide (seq ≥ 1)
 ·refine gq2 h1 ?_
  refine zK hl ?_
  exact fin _ (by rw [zhI,h1]; rfl)
 cases h2 : decide (seq ≤ 9007199254740992)
 ·refine gq2 (zc h1 h2) ?_
  refine zK hl ?_
  exact fin _ (by rw [zhI,h1,h2]; rfl)
 cases h3 : (seq.tmod 4 == 0)
 ·refine gq2 (zc h1 (zc h2 (zc e4 h3))) ?_
  refine zK hl ?_
  exact fin _ (by rw [zhI,h1,h2,h3]; rfl)
 cases h4 : decide (d ≥ 1)
 ·refine gq2 (zc h1 (zc h2 (zc e4 (zc h3 h4)))) ?_
  refine zK hl ?_
  exact fin _ (by rw [zhI,h1,h2,h3,h4]; rfl)
 cases h5 : decide (d ≤ 9007199254740992)
 ·refine gq2 (zc h1 (zc h2 (zc e4 (zc h3 (zc h4 h5))))) ?_
  refine zK hl ?_
  exact fin _ (by rw [zhI,h1,h2,h3,h4,h5]; rfl)
 cases h6 : decide (key ≥ 0)
 ·refine gq2 (zc h1 (zc h2 (zc e4 (zc h3 (zc h4 (zc h5 h6)))))) ?_
  refine zK hl ?_
  exact fin _ (by rw [zhI,h1,h2,h3,h4,h5,h6]; rfl)
 refine gq2 (zc h1 (zc h2 (zc e4 (zc h3 (zc h4 (zc h5 (zc h6 hσ))))))) ?_
 refine c_quBrokers ?_
 refine gq1 ?_
 refine zK hl ?_
 exact fin _ (by rw [zhI,h1,h2,h3,h4,h5,h6]; rfl)
theorem c_r14May {σ : List zg} {id : Nat} {f seq d key : Int} {cs : List AV} (hσ : σ[id]? = some (.box (.d (.int .i64 f) :: cs))) {K : KT} (hK : K (.d (.bool (zhI f seq d key))) σ) :
  zq Tryz.prog zgd [.box id 0, .d (.int .i64 seq), .d (.int .i64 d), .d (.int .i64 key)] σ K := by
 refine acE4 zqe fun hl => ?_
 have fin : ∀ z,zhI f seq d key = z → K (.d (.bool z)) σ := fun z h => h ▸ hK
 clear hK
 have e4 : ((4 : Int) == 0) = false := rfl
 simp only [zjO,iN,bT,bF,eN]
 cases h1 : decide (seq ≥ 1)
 ·refine gq2 h1 ?_
  refine zK hl ?_
  exact fin _ (by rw [zhI,h1]; rfl)
 cases h2 : decide (seq ≤ 9007199254740992)
 ·refine gq2 (zc h1 h2) ?_
  refine zK hl ?_
  exact fin _ (by rw [zhI,h1,h2]; rfl)
 cases h3 : (seq.tmod 4 == 0)
 ·refine gq2 (zc h1 (zc h2 (zc e4 h3))) ?_
  refine zK hl ?_
  exact fin _ (by rw [zhI,h1,h2,h3]; rfl)
 cases h4 : decide (d ≥ 1)
 ·refine gq2 (zc h1 (zc h2 (zc e4 (zc h3 h4)))) ?_
  refine zK hl ?_
  exact fin _ (by rw [zhI,h1,h2,h3,h4]; rfl)
 cases h5 : decide (d ≤ 9007199254740992)
 ·refine gq2 (zc h1 (zc h2 (zc e4 (zc h3 (zc h4 h5))))) ?_
  refine zK hl ?_
  exact fin _ (by rw [zhI,h1,h2,h3,h4,h5]; rfl)
 cases h6 : decide (key ≥ 0)
 ·refine gq2 (zc h1 (zc h2 (zc e4 (zc h3 (zc h4 (zc h5 h6)))))) ?_
  refine zK hl ?_
  exact fin _ (by rw [zhI,h1,h2,h3,h4,h5,h6]; rfl)
 refine gq2 (zc h1 (zc h2 (zc e4 (zc h3 (zc h4 (zc h5 (zc h6 hσ))))))) ?_
 refine ztN ?_
 refine gq1 ?_
 refine zK hl ?_
 exact fin _ (by rw [zhI,h1,h2,h3,h4,h5,h6]; rfl)
theorem zfB {l : List zI} {k : Nat} {s : zI} (h : l[k]? = some s) : aheadS l (k + 1) = some s := h
abbrev certO (c : zfV) : zg := .box [.d (.int .i64 c.seq), .d (.int .i64 c.dig), .d (.slice (zas c.signs))]
theorem c_ptMayCert {σ : List zg} {id : Nat} {f : Int} {c : zfV} {cs : List AV} (hσ : σ[id]? = some (.box (.d (.int .i64 f) :: cs))) (hl0 : c.signs.length ≤ 1073741824) {K : KT} (hK : K (.d (.bool (zcX f c))) σ) :
  zq Tryz.prog zdl [.box id 0,ziN c] σ K := by
 refine zga zke fun hl => ?_
 have fin : ∀ z,zcX f c = z → K (.d (.bool z)) σ := fun z h => h ▸ hK
 clear hK
 have hlen : (zas c.signs).length = c.signs.length := List.length_map ..
 have hS : ∀ τ,(σ ++ τ)[id]? = some (.box (.d (.int .i64 f) :: cs)) := fun τ => zf hσ
 simp only [zfj,iN,bT,bF,eN,ziN]
 refine gq1 ?_
 refine c_ptZero (c := c) ?_
 cases hz : zos c
 rotate_left
 ·refine gq1 ?_
  refine zK hl ?_
  exact fin _ (by rw [zcX,hz]; rfl)
 refine gq2 hlen ?_
 refine zw c.signs.length (fun k vs s => vs = [.d (.int .i64 k)] ∧ (∃ T,s = σ ++ certO c :: T) ∧ zuD f c.seq c.dig none c.signs = zuD f c.seq c.dig (aheadS c.signs k) (c.signs.drop k)) ⟨rfl,⟨[],rfl⟩,rfl⟩ ?_
 rintro k vs s hk ⟨rfl,⟨T,rfl⟩,hpf⟩
 have no : zuD f c.seq c.dig none c.signs = false → zcX f c = false := fun h => by rw [zcX,hz,h,Bool.and_false]; rfl
 by_cases hlt : k < c.signs.length
 ·have hd : decide ((k : Int) < (c.signs.length : Int)) = true := by simp; omega
  have hx : c.signs[k]? = some c.signs[k] := by simp [hlt]
  have hgx := zU (f := zfI) hx
  obtain ⟨x,hxe⟩ : ∃ x,c.signs[k] = x := ⟨_,rfl⟩
  rw [hxe] at hx hgx
  rw [ztj hx] at hpf
  refine gq8 (zc hd hgx) ?_
  refine c_ptMay (hS _) ?_
  cases h1 : zhI f c.seq c.dig x.key
  ·refine gq1 ?_
   refine zK hl ?_
   exact fin _ (no (by rw [hpf,h1]; rfl))
  rw [h1,Bool.true_and] at hpf
  cases k with
  | zero =>
   refine gq2 (zc (show decide (((0 : Nat) : Int) > 0) = false from rfl) (wkc 0 (by omega))) ?_
   exact zap.next hlt ⟨rfl,⟨_,rfl⟩,by rw [hpf,zfB hx]; rfl⟩
  | succ j =>
   have hz1 : decide (((j + 1 : Nat) : Int) > 0) = true := decide_eq_true (by omega)
   have hw1 : IntKind.i64.wrap (((j + 1 : Nat) : Int) - 1) = (j : Int) := by rw [zJ (by omega) (by omega)]; omega
   have hy : c.signs[j]? = some c.signs[j] := by simp [show j < c.signs.length by omega]
   have hgy := zU (f := zfI) hy
   obtain ⟨y,hye⟩ : ∃ y,c.signs[j] = y := ⟨_,rfl⟩
   rw [hye] at hy hgy
   rw [zfB hy] at hpf
   simp only at hpf
   cases h2 : decide (x.key ≤ y.key)
   ·refine gq8 (zc hz1 (zc hw1 (zc hgx (zc hgy (zc h2 (wkc (j + 1) (by omega))))))) ?_
    exact zap.next hlt ⟨rfl,⟨_,rfl⟩,by rw [hpf,h2,zfB hx]; simp⟩
   ·refine gq8 (zc hz1 (zc hw1 (zc hgx (zc hgy h2)))) ?_
    refine zK hl ?_
    exact fin _ (no (by rw [hpf,h2]; rfl))
 ·have hd : decide ((k : Int) < (c.signs.length : Int)) = false := by simp; omega
  rw [List.drop_eq_nil_of_le (by omega)] at hpf
  refine gq2 (zc hd (zc hlen hS)) ?_
  refine c_quBig ?_
  refine gq1 ?_
  refine zK hl ?_
  exact fin _ (by rw [zcX,hz,hpf]; simp [zuD])
theorem c_r14MayCert {σ : List zg} {id : Nat} {f : Int} {c : zfV} {cs : List AV} (hσ : σ[id]? = some (.box (.d (.int .i64 f) :: cs))) (hl0 : c.signs.length ≤ 1073741824) {K : KT} (hK : K (.d (.bool (zcX f c))) σ) :
  zq Tryz.prog zdP [.box id 0,ziN c] σ K := by
 refine zga zlQ fun hl => ?_
 have fin : ∀ z,zcX f c = z → K (.d (.bool z)) σ := fun z h => h ▸ hK
 clear hK
 have hlen : (zas c.signs).length = c.signs.length := List.length_map ..
 have hS : ∀ τ,(σ ++ τ)[id]? = some (.box (.d (.int .i64 f) :: cs)) := fun τ => zf hσ
 simp only [zgB,iN,bT,bF,eN,ziN]
 refine gq1 ?_
 refine c_r14Zero (c := c) ?_
 cases hz : zos c
 rotate_left
 ·refine gq1 ?_
  refine zK hl ?_
  exact fin _ (by rw [zcX,hz]; rfl)
 refine gq2 (zc hlen hS) ?_
 refine c_rBig ?_
 cases hb : decide ((c.signs.length : Int) < zdc 2 f)
 rotate_left
 ·refine gq2 hb ?_
  refine zK hl ?_
  refine fin _ ?_
  have : decide ((c.signs.length : Int) ≥ zdc 2 f) = false := by simp at hb ⊢; omega
  rw [zcX,hz,this]; rfl
 have hb2 : decide ((c.signs.length : Int) ≥ zdc 2 f) = true := by simp at hb ⊢; omega
 refine gq2 hb ?_
 refine zw c.signs.length (fun k vs s => vs = [.d (.int .i64 k)] ∧ s = σ ++ [certO c] ∧ zcX f c = zuD f c.seq c.dig (aheadS c.signs k) (c.signs.drop k)) ⟨rfl,rfl,by rw [zcX,hz,hb2]; rfl⟩ ?_
 rintro k vs s hk ⟨rfl,rfl,hpf⟩
 by_cases hlt : k < c.signs.length
 ·have hd : decide ((k : Int) < (c.signs.length : Int)) = true := by simp; omega
  have hx : c.signs[k]? = some c.signs[k] := by simp [hlt]
  have hgx := zU (f := zfI) hx
  obtain ⟨x,hxe⟩ : ∃ x,c.signs[k] = x := ⟨_,rfl⟩
  rw [hxe] at hx hgx
  rw [ztj hx] at hpf
  refine gq8 (zc hd (zc hgx hlen)) ?_
  refine c_r14May (hS _) ?_
  cases h1 : zhI f c.seq c.dig x.key
  ·refine gq1 ?_
   refine zK hl ?_
   exact fin _ (by rw [hpf,h1]; rfl)
  rw [h1,Bool.true_and] at hpf
  cases k with
  | zero =>
   refine gq2 (zc (show decide (((0 : Nat) : Int) > 0) = false from rfl) (wkc 0 (by omega))) ?_
   exact zap.next hlt ⟨rfl,rfl,by rw [hpf,zfB hx]; rfl⟩
  | succ j =>
   have hz1 : decide (((j + 1 : Nat) : Int) > 0) = true := decide_eq_true (by omega)
   have hw1 : IntKind.i64.wrap (((j + 1 : Nat) : Int) - 1) = (j : Int) := by rw [zJ (by omega) (by omega)]; omega
   have hy : c.signs[j]? = some c.signs[j] := by simp [show j < c.signs.length by omega]
   have hgy := zU (f := zfI) hy
   obtain ⟨y,hye⟩ : ∃ y,c.signs[j] = y := ⟨_,rfl⟩
   rw [hye] at hy hgy
   rw [zfB hy] at hpf
   simp only at hpf
   cases h2 : decide (x.key ≤ y.key)
   ·refine gq8 (zc hz1 (zc hw1 (zc hgx (zc hgy (zc h2 (wkc (j + 1) (by omega))))))) ?_
    exact zap.next hlt ⟨rfl,rfl,by rw [hpf,h2,zfB hx]; simp⟩
   ·refine gq8 (zc hz1 (zc hw1 (zc hgx (zc hgy h2)))) ?_
    refine zK hl ?_
    exact fin _ (by rw [hpf,h2]; rfl)
 ·have hd : decide ((k : Int) < (c.signs.length : Int)) = false := by simp; omega
  rw [List.drop_eq_nil_of_le (by omega)] at hpf
  refine gq2 (zc hd hlen) ?_
  refine zK hl ?_
  exact fin _ (by rw [hpf]; rfl)
theorem c_ptNew {σ : List zg} {f : Int} {K : KT} (hN : zcQ f ≠ 0 → K (.tup [.d .nilp, .d (.int .i64 (zcQ f))]) σ)
  (hY : zcQ f = 0 → K (.tup [.box (σ.length + 1) 0, .d (.int .i64 0)]) (σ ++ [.map [], .box [.d (.int .i64 f), .d (.int .i64 0), .d (.int .i64 0), .exact [], .map σ.length, .exact []]])) : zq Tryz.prog zmD [.d (.int .i64 f)] σ K := by
 refine zct zrz.is rfl (fun s => if s.length = σ.length then [] else List.range' σ.length 2) fun hl _ => zrz.goes ?_
 simp only [zsr,iN,bT,bF,eN]
 refine gq1 ?_
 refine zrO ?_
 cases h : (zcQ f != 0)
 ·have h0 : zcQ f = 0 := by simpa using h
  refine gq2 h ?_
  refine zeU (os := [.map [], .box [.d (.int .i64 f), .d (.int .i64 0), .d (.int .i64 0), .exact [], .map σ.length, .exact []]]) rfl (by simp) hl ?_ ?_ (hY h0)
  ·intro x hx
   simp only [List.mem_cons,List.not_mem_nil,or_false] at hx
   rcases hx with rfl | rfl
   ·intro e he; simp at he
   ·intro c hc
    simp only [List.mem_cons,List.not_mem_nil,or_false] at hc
    rcases hc with rfl | rfl | rfl | rfl | rfl | rfl
    ·exact .d _
    ·exact .d _
    ·exact .d _
    ·exact .exact _
    ·exact .map _ (by simp)
    ·exact .exact _
  ·simp [zbY,zbf,Low_box,zcO]
 ·refine gq2 h ?_
  exact zrr (by simp) hl (by simp [zbY,zcH,zhM]) (hN (by simpa using h))
end Go.Proofs.YtfjommppajkpoaaGreat
