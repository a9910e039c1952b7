/- Contracts: checkpoints' certificates, on both sides. -/
import Derived.Test.YtncpaekiidpchaaGreatAu1
import Derived.Test.YtncpaekiidpchaaGreatAu3
import Derived.Test.YtncpaekiidpchaaGreatSpChk
set_option linter.all false
set_option maxRecDepth 100000
namespace Go.Proofs.YtncpaekiidpchaaGreat
open Go.AW
theorem c_ptZero {σ : List zh} {c : zfk} {K : KT} (hK : K (.d (.bool (zoS c))) σ) : zy Tryz.prog zlk [certA c] σ K := by
 refine zi zqi.is rfl fun hl _ => zqi.goes ?_
 have hlen : (zax c.signs).length = c.signs.length := List.length_map ..
 have fin : ∀ z,zoS c = z → K (.d (.bool z)) σ := fun z h => h ▸ hK
 clear hK
 simp only [zqB,iN,bT,bF,eN,certA]
 cases h1 : (c.seq == 0)
 ·(repeat' first | refine gq2 h1 ?_ | with_reducible first | exact ⟨⟩ | refine zg ?_ | fail)
  (first | refine zX hl ?_ | refine zW hl ?_)
  exact fin _ (by simp [zoS,h1])
 cases h2 : (c.dig == 0)
 ·(repeat' first | refine gq2 (zc h1 h2) ?_ | with_reducible first | exact ⟨⟩ | refine zg ?_ | fail)
  (first | refine zX hl ?_ | refine zW hl ?_)
  exact fin _ (by simp [zoS,h1,h2])
 (repeat' first | refine gq2 (zc h1 (zc h2 hlen)) ?_ | with_reducible first | exact ⟨⟩ | refine zg ?_ | fail)
 (first | refine zX hl ?_ | refine zW hl ?_)
 exact fin _ (by simp [zoS,h1,h2])
theorem c_r14Zero {σ : List zh} {c : zfk} {K : KT} (hK : K (.d (.bool (zoS c))) σ) : zy Tryz.prog zpd [certA c] σ K := by
 refine zi ztW.is rfl fun hl _ => ztW.goes ?_
 have hlen : (zax c.signs).length = c.signs.length := List.length_map ..
 have fin : ∀ z,zoS c = z → K (.d (.bool z)) σ := fun z h => h ▸ hK
 clear hK
 simp only [zuJ,iN,bT,bF,eN,certA]
 cases h1 : (c.seq == 0)
 ·(repeat' first | refine gq2 h1 ?_ | with_reducible first | exact ⟨⟩ | refine zg ?_ | fail)
  (first | refine zX hl ?_ | refine zW hl ?_)
  exact fin _ (by simp [zoS,h1])
 cases h2 : (c.dig == 0)
 ·(repeat' first | refine gq2 (zc h1 h2) ?_ | with_reducible first | exact ⟨⟩ | refine zg ?_ | fail)
  (first | refine zX hl ?_ | refine zW hl ?_)
  exact fin _ (by simp [zoS,h1,h2])
 (repeat' first | refine gq2 (zc h1 (zc h2 hlen)) ?_ | with_reducible first | exact ⟨⟩ | refine zg ?_ | fail)
 (first | refine zX hl ?_ | refine zW hl ?_)
 exact fin _ (by simp [zoS,h1,h2])
theorem c_ptMay {σ : List zh} {id : Nat} {f seq d key : Int} {cs : List AV} (hσ : σ[id]? = some (.box (.d (.int .i64 f) :: cs))) {K : KT} (hK : K (.d (.bool (zia f seq d key))) σ) :
  zy Tryz.prog zfe [.box id 0, .d (.int .i64 seq), .d (.int .i64 d), .d (.int .i64 key)] σ K := by
 refine zi ziq.is rfl fun hl _ => ziq.goes ?_
 have fin : ∀ z,zia f seq d key = z → K (.d (.bool z)) σ := fun z h => h ▸ hK
 clear hK
 have e4 : ((4 : Int) == 0) = false := rfl
 simp only [ziA,iN,bT,bF,eN]
 cases h1 : decide (seq ≥ 1)
 ·(repeat' first | refine gq2 h1 ?_ | with_reducible first | exact ⟨⟩ | refine zg ?_ | fail)
  (first | refine zX hl ?_ | refine zW hl ?_)
  exact fin _ (by rw [zia,h1]; rfl)
 cases h2 : decide (seq ≤ 9007199254740992)
 ·(repeat' first | refine gq2 (zc h1 h2) ?_ | with_reducible first | exact ⟨⟩ | refine zg ?_ | fail)
  (first | refine zX hl ?_ | refine zW hl ?_)
  exact fin _ (by rw [zia,h1,h2]; rfl)
 cases h3 : (seq.tmod 4 == 0)
 ·(repeat' first | refine gq2 (zc h1 (zc h2 (zc e4 h3))) ?_ | with_reducible first | exact ⟨⟩ | refine zg ?_ | fail)
  (first | refine zX hl ?_ | refine zW hl ?_)
  exact fin _ (by rw [zia,h1,h2,h3]; rfl)
 cases h4 : decide (d ≥ 1)
 ·(repeat' first | refine gq2 (zc h1 (zc h2 (zc e4 (zc h3 h4)))) ?_ | with_reducible first | exact ⟨⟩ | refine zg ?_ | fail)
  (first | refine zX hl ?_ | refine zW hl ?_)
  exact fin _ (by rw [zia,h1,h2,h3,h4]; rfl)
 cases h5 : decide (d ≤ 9007199254740992)
 ·(repeat' first | refine gq2 (zc h1 (zc h2 (zc e4 (zc h3 (zc h4 h5))))) ?_ | with_reducible first | exact ⟨⟩ | refine zg ?_ | fail)
  (first | refine zX hl ?_ | refine zW hl ?_)
  exact fin _ (by rw [zia,h1,h2,h3,h4,h5]; rfl)
 cases h6 : decide (key ≥ 0)
 ·(repeat' first | refine gq2 (zc h1 (zc h2 (zc e4 (zc h3 (zc h4 (zc h5 h6)))))) ?_ | with_reducible first | exact ⟨⟩ | refine zg ?_ | fail)
  (first | refine zX hl ?_ | refine zW hl ?_)
  exact fin _ (by rw [zia,h1,h2,h3,h4,h5,h6]; rfl)
 (repeat' first | refine gq2 (zc h1 (zc h2 (zc e4 (zc h3 (zc h4 (zc h5 (zc h6 hσ))))))) ?_ | with_reducible first | exact ⟨⟩ | refine zg ?_ | fail)
 refine c_quBrokers ?_
 (repeat' first | refine gq1 ?_ | with_reducible first | exact ⟨⟩ | refine zg ?_ | fail)
 (first | refine zX hl ?_ | refine zW hl ?_)
 exact fin _ (by rw [zia,h1,h2,h3,h4,h5,h6]; rfl)
theorem c_r14May {σ : List zh} {id : Nat} {f seq d key : Int} {cs : List AV} (hσ : σ[id]? = some (.box (.d (.int .i64 f) :: cs))) {K : KT} (hK : K (.d (.bool (zia f seq d key))) σ) :
  zy Tryz.prog zgp [.box id 0, .d (.int .i64 seq), .d (.int .i64 d), .d (.int .i64 key)] σ K := by
 refine zi zko.is rfl fun hl _ => zko.goes ?_
 have fin : ∀ z,zia f seq d key = z → K (.d (.bool z)) σ := fun z h => h ▸ hK
 clear hK
 have e4 : ((4 : Int) == 0) = false := rfl
 simp only [zkC,iN,bT,bF,eN]
 cases h1 : decide (seq ≥ 1)
 ·(repeat' first | refine gq2 h1 ?_ | with_reducible first | exact ⟨⟩ | refine zg ?_ | fail)
  (first | refine zX hl ?_ | refine zW hl ?_)
  exact fin _ (by rw [zia,h1]; rfl)
 cases h2 : decide (seq ≤ 9007199254740992)
 ·(repeat' first | refine gq2 (zc h1 h2) ?_ | with_reducible first | exact ⟨⟩ | refine zg ?_ | fail)
  (first | refine zX hl ?_ | refine zW hl ?_)
  exact fin _ (by rw [zia,h1,h2]; rfl)
 cases h3 : (seq.tmod 4 == 0)
 ·(repeat' first | refine gq2 (zc h1 (zc h2 (zc e4 h3))) ?_ | with_reducible first | exact ⟨⟩ | refine zg ?_ | fail)
  (first | refine zX hl ?_ | refine zW hl ?_)
  exact fin _ (by rw [zia,h1,h2,h3]; rfl)
 cases h4 : decide (d ≥ 1)
 ·(repeat' first | refine gq2 (zc h1 (zc h2 (zc e4 (zc h3 h4)))) ?_ | with_reducible first | exact ⟨⟩ | refine zg ?_ | fail)
  (first | refine zX hl ?_ | refine zW hl ?_)
  exact fin _ (by rw [zia,h1,h2,h3,h4]; rfl)
 cases h5 : decide (d ≤ 9007199254740992)
 ·(repeat' first | refine gq2 (zc h1 (zc h2 (zc e4 (zc h3 (zc h4 h5))))) ?_ | with_reducible first | exact ⟨⟩ | refine zg ?_ | fail)
  (first | refine zX hl ?_ | refine zW hl ?_)
  exact fin _ (by rw [zia,h1,h2,h3,h4,h5]; rfl)
 cases h6 : decide (key ≥ 0)
 ·(repeat' first | refine gq2 (zc h1 (zc h2 (zc e4 (zc h3 (zc h4 (zc h5 h6)))))) ?_ | with_reducible first | exact ⟨⟩ | refine zg ?_ | fail)
  (first | refine zX hl ?_ | refine zW hl ?_)
  exact fin _ (by rw [zia,h1,h2,h3,h4,h5,h6]; rfl)
 (repeat' first | refine gq2 (zc h1 (zc h2 (zc e4 (zc h3 (zc h4 (zc h5 (zc h6 hσ))))))) ?_ | with_reducible first | exact ⟨⟩ | refine zg ?_ | fail)
 refine zuw ?_
 (repeat' first | refine gq1 ?_ | with_reducible first | exact ⟨⟩ | refine zg ?_ | fail)
 (first | refine zX hl ?_ | refine zW hl ?_)
 exact fin _ (by rw [zia,h1,h2,h3,h4,h5,h6]; rfl)
theorem zfL {l : List zS} {k : Nat} {s : zS} (h : l[k]? = some s) : aheadS l (k + 1) = some s := h
abbrev zvy (c : zfk) : zh := .box [.d (.int .i64 c.seq), .d (.int .i64 c.dig), .d (.slice (zax c.signs))]
theorem c_ptMayCert {σ : List zh} {id : Nat} {f : Int} {c : zfk} {cs : List AV} (hσ : σ[id]? = some (.box (.d (.int .i64 f) :: cs))) (hl0 : c.signs.length ≤ 1073741824) {K : KT} (hK : K (.d (.bool (zdk f c))) σ) :
  zy Tryz.prog zdy [.box id 0,certA c] σ K := by
 refine zi zfq.is rfl fun hl _ => zfq.goes ?_
 have fin : ∀ z,zdk f c = z → K (.d (.bool z)) σ := fun z h => h ▸ hK
 clear hK
 have hlen : (zax c.signs).length = c.signs.length := List.length_map ..
 have hS : ∀ τ,(σ ++ τ)[id]? = some (.box (.d (.int .i64 f) :: cs)) := fun τ => zf hσ
 simp only [zfr,iN,bT,bF,eN,certA]
 (repeat' first | refine gq1 ?_ | with_reducible first | exact ⟨⟩ | refine zg ?_ | fail)
 refine c_ptZero (c := c) ?_
 cases hz : zoS c
 rotate_left
 ·(repeat' first | refine gq1 ?_ | with_reducible first | exact ⟨⟩ | refine zg ?_ | fail)
  (first | refine zX hl ?_ | refine zW hl ?_)
  exact fin _ (by rw [zdk,hz]; rfl)
 (repeat' first | refine gq2 hlen ?_ | with_reducible first | exact ⟨⟩ | refine zg ?_ | fail)
 refine zB c.signs.length (fun k vs s => vs = [.d (.int .i64 k)] ∧ (∃ T,s = σ ++ zvy c :: T) ∧ zvm f c.seq c.dig none c.signs = zvm f c.seq c.dig (aheadS c.signs k) (c.signs.drop k)) ⟨rfl,⟨[],rfl⟩,rfl⟩ ?_
 rintro k vs s hk ⟨rfl,⟨T,rfl⟩,hpf⟩
 have no : zvm f c.seq c.dig none c.signs = false → zdk f c = false := fun h => by rw [zdk,hz,h,Bool.and_false]; rfl
 by_cases hlt : k < c.signs.length
 ·have hd : decide ((k : Int) < (c.signs.length : Int)) = true := by simp; omega
  have hx : c.signs[k]? = some c.signs[k] := by simp [hlt]
  have hgx := zU (f := zgn) hx
  obtain ⟨x,hxe⟩ : ∃ x,c.signs[k] = x := ⟨_,rfl⟩
  rw [hxe] at hx hgx
  rw [ztA hx] at hpf
  (repeat' first | refine gq34 (zc hd hgx) ?_ | with_reducible first | exact ⟨⟩ | refine zg ?_ | fail)
  refine c_ptMay (hS _) ?_
  cases h1 : zia f c.seq c.dig x.key
  ·(repeat' first | refine gq1 ?_ | with_reducible first | exact ⟨⟩ | refine zg ?_ | fail)
   (first | refine zX hl ?_ | refine zW hl ?_)
   exact fin _ (no (by rw [hpf,h1]; rfl))
  rw [h1,Bool.true_and] at hpf
  cases k with
  | zero =>
   (repeat' first | refine gq2 (zc (show decide (((0 : Nat) : Int) > 0) = false from rfl) (wkc 0 (by omega))) ?_ | with_reducible first | exact ⟨⟩ | refine zg ?_ | fail)
   exact zap.next hlt ⟨rfl,⟨_,rfl⟩,by rw [hpf,zfL hx]; rfl⟩
  | succ j =>
   have hz1 : decide (((j + 1 : Nat) : Int) > 0) = true := decide_eq_true (by omega)
   have hw1 : IntKind.i64.wrap (((j + 1 : Nat) : Int) - 1) = (j : Int) := by rw [zP (by omega) (by omega)]; omega
   have hy : c.signs[j]? = some c.signs[j] := by simp [show j < c.signs.length by omega]
   have hgy := zU (f := zgn) hy
   obtain ⟨y,hye⟩ : ∃ y,c.signs[j] = y := ⟨_,rfl⟩
   rw [hye] at hy hgy
   rw [zfL hy] at hpf
   simp only at hpf
   cases h2 : decide (x.key ≤ y.key)
   ·(repeat' first | refine gq34 (zc hz1 (zc hw1 (zc hgx (zc hgy (zc h2 (wkc (j + 1) (by omega))))))) ?_ | with_reducible first | exact ⟨⟩ | refine zg ?_ | fail)
    exact zap.next hlt ⟨rfl,⟨_,rfl⟩,by rw [hpf,h2,zfL hx]; simp⟩
   ·(repeat' first | refine gq34 (zc hz1 (zc hw1 (zc hgx (zc hgy h2)))) ?_ | with_reducible first | exact ⟨⟩ | refine zg ?_ | fail)
    (first | refine zX hl ?_ | refine zW hl ?_)
    exact fin _ (no (by rw [hpf,h2]; rfl))
 ·have hd : decide ((k : Int) < (c.signs.length : Int)) = false := by simp; omega
  rw [List.drop_eq_nil_of_le (by omega)] at hpf
  (repeat' first | refine gq2 (zc hd (zc hlen hS)) ?_ | with_reducible first | exact ⟨⟩ | refine zg ?_ | fail)
  refine c_quBig ?_
  (repeat' first | refine gq1 ?_ | with_reducible first | exact ⟨⟩ | refine zg ?_ | fail)
  (first | refine zX hl ?_ | refine zW hl ?_)
  exact fin _ (by rw [zdk,hz,hpf]; simp [zvm])
theorem c_r14MayCert {σ : List zh} {id : Nat} {f : Int} {c : zfk} {cs : List AV} (hσ : σ[id]? = some (.box (.d (.int .i64 f) :: cs))) (hl0 : c.signs.length ≤ 1073741824) {K : KT} (hK : K (.d (.bool (zdk f c))) σ) :
  zy Tryz.prog zep [.box id 0,certA c] σ K := by
 refine zi zgA.is rfl fun hl _ => zgA.goes ?_
 have fin : ∀ z,zdk f c = z → K (.d (.bool z)) σ := fun z h => h ▸ hK
 clear hK
 have hlen : (zax c.signs).length = c.signs.length := List.length_map ..
 have hS : ∀ τ,(σ ++ τ)[id]? = some (.box (.d (.int .i64 f) :: cs)) := fun τ => zf hσ
 simp only [zgK,iN,bT,bF,eN,certA]
 (repeat' first | refine gq1 ?_ | with_reducible first | exact ⟨⟩ | refine zg ?_ | fail)
 refine c_r14Zero (c := c) ?_
 cases hz : zoS c
 rotate_left
 ·(repeat' first | refine gq1 ?_ | with_reducible first | exact ⟨⟩ | refine zg ?_ | fail)
  (first | refine zX hl ?_ | refine zW hl ?_)
  exact fin _ (by rw [zdk,hz]; rfl)
 (repeat' first | refine gq2 (zc hlen hS) ?_ | with_reducible first | exact ⟨⟩ | refine zg ?_ | fail)
 refine c_rBig ?_
 cases hb : decide ((c.signs.length : Int) < zdp 2 f)
 rotate_left
 ·(repeat' first | refine gq2 hb ?_ | with_reducible first | exact ⟨⟩ | refine zg ?_ | fail)
  (first | refine zX hl ?_ | refine zW hl ?_)
  refine fin _ ?_
  have : decide ((c.signs.length : Int) ≥ zdp 2 f) = false := by simp at hb ⊢; omega
  rw [zdk,hz,this]; rfl
 have hb2 : decide ((c.signs.length : Int) ≥ zdp 2 f) = true := by simp at hb ⊢; omega
 (repeat' first | refine gq2 hb ?_ | with_reducible first | exact ⟨⟩ | refine zg ?_ | fail)
 refine zB c.signs.length (fun k vs s => vs = [.d (.int .i64 k)] ∧ s = σ ++ [zvy c] ∧ zdk f c = zvm f c.seq c.dig (aheadS c.signs k) (c.signs.drop k)) ⟨rfl,rfl,by rw [zdk,hz,hb2]; rfl⟩ ?_
 rintro k vs s hk ⟨rfl,rfl,hpf⟩
 by_cases hlt : k < c.signs.length
 ·have hd : decide ((k : Int) < (c.signs.length : Int)) = true := by simp; omega
  have hx : c.signs[k]? = some c.signs[k] := by simp [hlt]
  have hgx := zU (f := zgn) hx
  obtain ⟨x,hxe⟩ : ∃ x,c.signs[k] = x := ⟨_,rfl⟩
  rw [hxe] at hx hgx
  rw [ztA hx] at hpf
  (repeat' first | refine gq34 (zc hd (zc hgx hlen)) ?_ | with_reducible first | exact ⟨⟩ | refine zg ?_ | fail)
  refine c_r14May (hS _) ?_
  cases h1 : zia f c.seq c.dig x.key
  ·(repeat' first | refine gq1 ?_ | with_reducible first | exact ⟨⟩ | refine zg ?_ | fail)
   (first | refine zX hl ?_ | refine zW hl ?_)
   exact fin _ (by rw [hpf,h1]; rfl)
  rw [h1,Bool.true_and] at hpf
  cases k with
  | zero =>
   (repeat' first | refine gq2 (zc (show decide (((0 : Nat) : Int) > 0) = false from rfl) (wkc 0 (by omega))) ?_ | with_reducible first | exact ⟨⟩ | refine zg ?_ | fail)
   exact zap.next hlt ⟨rfl,rfl,by rw [hpf,zfL hx]; rfl⟩
  | succ j =>
   have hz1 : decide (((j + 1 : Nat) : Int) > 0) = true := decide_eq_true (by omega)
   have hw1 : IntKind.i64.wrap (((j + 1 : Nat) : Int) - 1) = (j : Int) := by rw [zP (by omega) (by omega)]; omega
   have hy : c.signs[j]? = some c.signs[j] := by simp [show j < c.signs.length by omega]
   have hgy := zU (f := zgn) hy
   obtain ⟨y,hye⟩ : ∃ y,c.signs[j] = y := ⟨_,rfl⟩
   rw [hye] at hy hgy
   rw [zfL hy] at hpf
   simp only at hpf
   cases h2 : decide (x.key ≤ y.key)
   ·(repeat' first | refine gq34 (zc hz1 (zc hw1 (zc hgx (zc hgy (zc h2 (wkc (j + 1) (by omega))))))) ?_ | with_reducible first | exact ⟨⟩ | refine zg ?_ | fail)
    exact zap.next hlt ⟨rfl,rfl,by rw [hpf,h2,zfL hx]; simp⟩
   ·(repeat' first | refine gq34 (zc hz1 (zc hw1 (zc hgx (zc hgy h2)))) ?_ | with_reducible first | exact ⟨⟩ | refine zg ?_ | fail)
    (first | refine zX hl ?_ | refine zW hl ?_)
    exact fin _ (by rw [hpf,h2]; rfl)
 ·have hd : decide ((k : Int) < (c.signs.length : Int)) = false := by simp; omega
  rw [List.drop_eq_nil_of_le (by omega)] at hpf
  (repeat' first | refine gq2 (zc hd hlen) ?_ | with_reducible first | exact ⟨⟩ | refine zg ?_ | fail)
  (first | refine zX hl ?_ | refine zW hl ?_)
  exact fin _ (by rw [hpf]; rfl)
theorem c_ptNew {σ : List zh} {f : Int} {K : KT} (hN : zdd f ≠ 0 → K (.tup [.d .nilp, .d (.int .i64 (zdd f))]) σ)
  (hY : zdd f = 0 → K (.tup [.box (σ.length + 1) 0, .d (.int .i64 0)]) (σ ++ [.map [], .box [.d (.int .i64 f), .d (.int .i64 0), .d (.int .i64 0), .exact [], .map σ.length, .exact []]])) : zy Tryz.prog znl [.d (.int .i64 f)] σ K := by
 refine zcm zsh.is rfl (fun s => if s.length = σ.length then [] else List.range' σ.length 2) fun hl _ => zsh.goes ?_
 simp only [zsS,iN,bT,bF,eN]
 (repeat' first | refine gq1 ?_ | with_reducible first | exact ⟨⟩ | refine zg ?_ | fail)
 refine zsq ?_
 cases h : (zdd f != 0)
 ·have h0 : zdd f = 0 := by simpa using h
  (repeat' first | refine gq2 h ?_ | with_reducible first | exact ⟨⟩ | refine zg ?_ | fail)
  refine zfg (os := [.map [], .box [.d (.int .i64 f), .d (.int .i64 0), .d (.int .i64 0), .exact [], .map σ.length, .exact []]]) rfl (by simp) hl ?_ ?_ (hY h0)
  ·intro x hx
   simp only [List.mem_cons,List.not_mem_nil,or_false] at hx
   rcases hx with rfl | rfl
   ·intro e he; simp at he
   ·intro c hc
    simp only [List.mem_cons,List.not_mem_nil,or_false] at hc
    rcases hc with rfl | rfl | rfl | rfl | rfl | rfl
    ·exact .d _
    ·exact .d _
    ·exact .d _
    ·exact .exact _
    ·exact .map _ (by simp)
    ·exact .exact _
  ·simp [zcf,zbu,Low_box,zcZ]
 ·(repeat' first | refine gq2 h ?_ | with_reducible first | exact ⟨⟩ | refine zg ?_ | fail)
  exact znr (by simp) hl (by simp [zcf,zcF,zie]) (hN (by simpa using h))
end Go.Proofs.YtncpaekiidpchaaGreat
