/- Contracts: whether a proof shows what it says, on both sides. -/
import Derived.Test.YtfjommppajkpoaaGreatPt2
import Derived.Test.YtfjommppajkpoaaGreatCk3
import Derived.Test.YtfjommppajkpoaaGreatMk3
import Derived.Test.YtfjommppajkpoaaGreatHd2
set_option linter.all false
set_option maxRecDepth 100000
namespace Go.Proofs.YtfjommppajkpoaaGreat
open Go.AW
def zuH (L : List (List UInt8)) (p : zaE) (h : zdW) : Bool := match zcN L (zsH h) with
 | some i => (((i + 1 : Nat) : Int) == p.cert.dig) && (h.seq == p.cert.seq)
 | none => false
def zcG (L : List (List UInt8)) (p : zaE) : Bool := match p.headers.getLast? with
 | none => false
 | some h => zkW L p.headers && zuH L p h
def leafP (p : zaE) : zbe := ⟨p.topic,p.offset,p.rec_⟩
def rootP (p : zaE) : Int := match p.headers with
 | [] => 0
 | h :: _ => h.root
def zib (L : List (List UInt8)) (G : List zI) (f : Int) (p : zaE) : Int :=
 if zcQ f ≠ 0 then zcQ f else if zbW p ≠ 0 then zbW p else if zcG L p = false then 230 else if zkX L G f p.cert = false then 231 else
  if zfk L (rootP p) (zaz (leafP p)) p.index p.count p.path = false then 232 else 0
theorem zrJ {L : List (List UInt8)} : ∀ {l : List zdW} {q : Option zdW},zpE L q l = true → ∀ h ∈ l,zkd h = true
 | [],_,_,h,hm => by simp at hm
 | x :: l,q,hc,h,hm => by
  simp only [zpE,Bool.and_eq_true] at hc
  rcases List.mem_cons.1 hm with rfl | hm
  ·exact hc.1
  ·exact zrJ hc.2.2 h hm
theorem c_pfChained {σ : List zg} {id m t : Nat} {L : List (List UInt8)} {p : zaE} (hT : zcd σ id m t L) (hL : zjN L) (hp : zdy p) {K : KT} (hK : K (.d (.bool (zcG L p))) σ) : zq Tryz.prog zho [.box id 0,zcp p] σ K := by
 refine zga zrx fun hl => ?_
 have fin : ∀ z,zcG L p = z → K (.d (.bool z)) σ := fun z h => h ▸ hK
 clear hK
 have hhl : (zdf p.headers).length = p.headers.length := List.length_map ..
 have hph := hp.headers
 simp only [zlj,iN,bT,bF,eN,zcp]
 cases h0 : ((p.headers.length : Int) == 0)
 rotate_left
 ·have : p.headers = [] := List.eq_nil_of_length_eq_zero (by simp only [beq_iff_eq] at h0; omega)
  refine gq2 (zc hhl h0) ?_
  refine zK hl ?_
  exact fin _ (by simp [zcG,this])
 have hne : p.headers ≠ [] := by
  intro e; rw [e] at h0; simp at h0
 obtain ⟨h,hlast⟩ : ∃ h,p.headers.getLast? = some h := ⟨_,List.getLast?_eq_some_getLast hne⟩
 have hcf : zcG L p = (zkW L p.headers && zuH L p h) := by rw [zcG,hlast]
 have hpos : 0 < p.headers.length := List.length_pos_iff.2 hne
 have hget : p.headers[p.headers.length - 1]? = some h := by rw [← List.getLast?_eq_getElem?]; exact hlast
 have hgh := zU (f := zuJ) hget
 have hw : IntKind.i64.wrap ((p.headers.length : Int) - 1) = ((p.headers.length - 1 : Nat) : Int) := by rw [zJ (by omega) (by omega)]; omega
 refine gq2 (zc hhl h0) ?_
 refine c_blChain (hT.app _) hL hph ?_
 cases h1 : zkW L p.headers
 ·refine gq1 ?_
  refine zK hl ?_
  exact fin _ (by rw [hcf,h1]; rfl)
 have hok := zrJ h1 h (List.mem_of_getLast? hlast)
 have hc0 := zdg.2 hok
 refine gq2 (zc hhl (zc hw hgh)) ?_
 refine c_blBytes (h := h) ?_
 rw [znA hc0,hc0]
 refine gq2 (show ((0 : Int) != 0) = false from rfl) ?_
 refine zmW (hT.app _) ?_
 cases h2 : zcN L (zsH h) with
 | none =>
  refine gq5 ?_
  refine zK hl ?_
  exact fin _ (by rw [hcf,zuH,h2,Bool.and_false])
 | some i =>
  simp only [zji]
  cases h3 : (((i + 1 : Nat) : Int) == p.cert.dig)
  ·refine zbq h3 ?_
   refine zK hl ?_
   exact fin _ (by rw [hcf,zuH,h1,h2]; simp only [h3]; rfl)
  ·refine zbq h3 ?_
   refine zK hl ?_
   exact fin _ (by rw [hcf,zuH,h1,h2]; simp only [h3]; rfl)
theorem zjx {p : zaE} (hp : zdy p) : zje (leafP p) := ⟨hp.off,hp.topic,hp.rec_⟩
theorem zjg {p : zbe} (hp : zje p) : (zaz p).length ≤ 1073740000 := by
 have ht := hp.topic; have hr := hp.rec_; have ho := hp.off.2
 have l1 := zt (n := p.topic.length) (by omega)
 have l2 := zt (n := p.offset.toNat) (by omega)
 have l3 := zt (n := p.rec_.length) (by omega)
 simp only [zaz,znn,List.length_append]
 omega
theorem zpD {L : List (List UInt8)} {p : zaE} (h : zcG L p = true) : ∃ x r,p.headers = x :: r := by
 cases e : p.headers with
 | nil => simp [zcG,e] at h
 | cons x r => exact ⟨x,r,rfl⟩
theorem znO {p : zaE} (h : zbW p = 0) : p.count ≤ 16 := by
 rw [zbW,znp,zfG] at h
 split at h
 ·rename_i h1; exact absurd h h1
 ·rw [zfG] at h
  split at h
  ·rename_i h1; exact absurd h h1
  ·rw [zfG] at h
   split at h
   ·rename_i h1; exact absurd h h1
   ·rename_i h1
    have h1' : zbV (zbg p) = 0 := by simpa using h1
    simp only [zbg,zbV] at h1'
    split at h1'
    ·rename_i h2; exact absurd h1' h2
    ·split at h1'
     ·rename_i h3; exact absurd h1' h3
     ·rename_i h3
      exact (inE_0 (by simpa using h3)).2
theorem zdM {σ : List zg} {id m t id2 m2 t2 : Nat} {L : List (List UInt8)} {G : List zI} {f : Int} {p : zaE} (hT : zcd σ id m t L) (hG : zea σ id2 m2 t2 G) (hL : zjN L) (hg : G.length ≤ 1073741824) (hp : zdy p)
  {K : KT} (hK : K (.d (.int .i64 (zib L G f p))) σ) : zq Tryz.prog zG [.box id 0, .box id2 0, .d (.int .i64 f),zcp p] σ K := by
 refine acE4 zii fun hl => ?_
 have fin : ∀ z,zib L G f p = z → K (.d (.int .i64 z)) σ := fun z h => h ▸ hK
 clear hK
 simp only [zfH,iN,bT,bF,eN,zcp]
 refine gq1 ?_
 refine zjB (hT.app _) hL.nd hL.len hL.each ?_
 refine gq1 ?_
 refine zqA (hG.app _) hg fun g' => ?_
 refine gq1 ?_
 refine zrO ?_
 cases h0 : (zcQ f != 0)
 rotate_left
 ·refine gq2 h0 ?_
  refine zK hl ?_
  exact fin _ (by rw [zib,if_pos (by simpa using h0)])
 have v0 : zib L G f p = if zbW p ≠ 0 then zbW p else if zcG L p = false then 230 else if zkX L G f p.cert = false then 231 else if zfk L (rootP p) (zaz (leafP p)) p.index p.count p.path = false then 232 else 0 := by
  rw [zib,if_neg (by simpa using h0)]
 refine gq2 h0 ?_
 refine zsR (p := p) hp ?_
 cases h1 : (zbW p != 0)
 rotate_left
 ·refine gq2 h1 ?_
  refine zK hl ?_
  exact fin _ (by rw [v0,if_pos (by simpa using h1)])
 have h1' : zbW p = 0 := by simpa using h1
 rw [if_neg (by simpa using h1)] at v0
 refine gq2 h1 ?_
 refine c_pfChained (p := p) (hT.app _) hL hp ?_
 cases h2 : zcG L p
 ·refine gq1 ?_
  refine zK hl ?_
  exact fin _ (by rw [v0,if_pos h2])
 rw [if_neg (by simp [h2])] at v0
 refine gq1 ?_
 refine c_ptValid (c := p.cert) (hT.app _) (hG.app _) hL hg hp.signs ?_
 cases h3 : zkX L G f p.cert
 ·refine gq1 ?_
  refine zK hl ?_
  exact fin _ (by rw [v0,if_pos h3])
 rw [if_neg (by simp [h3])] at v0
 obtain ⟨x,r,hxr⟩ := zpD h2
 have hgx : (zdf p.headers)[0]? = some (zuJ x) := by rw [hxr]; rfl
 have hrt : rootP p = x.root := by rw [rootP,hxr]
 refine gq1 ?_
 refine ztI (p := leafP p) (zjx hp) ?_
 refine gq2 hgx ?_
 refine c_mkVerify (by have := znO h1'; omega) (hT.app _) hL.len (zjg (zjx hp)) (fun y hy => (hp.paths y hy).2) ?_
 rw [hrt] at v0
 cases h4 : zfk L x.root (zaz (leafP p)) p.index p.count p.path
 ·refine gq1 ?_
  refine zK hl ?_
  exact fin _ (by rw [v0,if_pos h4])
 ·refine gq1 ?_
  refine zK hl ?_
  exact fin _ (by rw [v0,if_neg (by simp [h4])])
theorem c_r23Verify {σ : List zg} {id id2 : Nat} {L : List (List UInt8)} {G : List zI} {f : Int} {p : zaE} (hT : σ[id]? = some (rtO L)) (hG : σ[id2]? = some (rlO G)) (hL : L.length ≤ 1048576) (hg : G.length ≤ 1073741824) (hp : zdy p)
  {K : KT} (hK : K (.d (.int .i64 (zib L G f p))) σ) : zq Tryz.prog zaf [.box id 0, .box id2 0, .d (.int .i64 f),zcp p] σ K := by
 refine acE4 e_r23_Verify fun hl => ?_
 have fin : ∀ z,zib L G f p = z → K (.d (.int .i64 z)) σ := fun z h => h ▸ hK
 clear hK
 have hhl : (zdf p.headers).length = p.headers.length := List.length_map ..
 have hph := hp.headers
 have xT : ∀ τ,(σ ++ τ)[id]? = some (rtO L) := fun τ => zf hT
 have xG : ∀ τ,(σ ++ τ)[id2]? = some (rlO G) := fun τ => zf hG
 simp only [zpI,iN,bT,bF,eN,zcp]
 refine gq1 ?_
 refine znQ ?_
 cases h0 : (zcQ f != 0)
 rotate_left
 ·refine gq2 h0 ?_
  refine zK hl ?_
  exact fin _ (by rw [zib,if_pos (by simpa using h0)])
 have v0 : zib L G f p = if zbW p ≠ 0 then zbW p else if zcG L p = false then 230 else if zkX L G f p.cert = false then 231 else if zfk L (rootP p) (zaz (leafP p)) p.index p.count p.path = false then 232 else 0 := by
  rw [zib,if_neg (by simpa using h0)]
 refine gq2 h0 ?_
 refine c_kProof (p := p) hp ?_
 cases h1 : (zbW p != 0)
 rotate_left
 ·refine gq2 h1 ?_
  refine zK hl ?_
  exact fin _ (by rw [v0,if_pos (by simpa using h1)])
 have h1' : zbW p = 0 := by simpa using h1
 rw [if_neg (by simpa using h1)] at v0
 cases h9 : ((p.headers.length : Int) == 0)
 rotate_left
 ·have : p.headers = [] := List.eq_nil_of_length_eq_zero (by simp only [beq_iff_eq] at h9; omega)
  refine gq2 (zc h1 (zc hhl h9)) ?_
  refine zK hl ?_
  exact fin _ (by rw [v0,if_pos (by simp [zcG,this])])
 have hne : p.headers ≠ [] := by
  intro e; rw [e] at h9; simp at h9
 obtain ⟨h,hlast⟩ : ∃ h,p.headers.getLast? = some h := ⟨_,List.getLast?_eq_some_getLast hne⟩
 have hcf : zcG L p = (zkW L p.headers && zuH L p h) := by rw [zcG,hlast]
 have hpos : 0 < p.headers.length := List.length_pos_iff.2 hne
 have hget : p.headers[p.headers.length - 1]? = some h := by rw [← List.getLast?_eq_getElem?]; exact hlast
 have hgh := zU (f := zuJ) hget
 have hw : IntKind.i64.wrap ((p.headers.length : Int) - 1) = ((p.headers.length - 1 : Nat) : Int) := by rw [zJ (by omega) (by omega)]; omega
 have no : zcG L p = false → zib L G f p = 230 := fun h => by rw [v0,if_pos h]
 refine gq2 (zc h1 (zc hhl h9)) ?_
 refine c_hrChain (xT _) hL hph ?_
 cases h2 : zkW L p.headers
 ·refine gq1 ?_
  refine zK hl ?_
  exact fin _ (no (by rw [hcf,h2]; rfl))
 have hok := zrJ h2 h (List.mem_of_getLast? hlast)
 have hc0 := zdg.2 hok
 rw [h2,Bool.true_and] at hcf
 refine gq2 (zc hhl (zc hw hgh)) ?_
 refine zrR (h := h) ?_
 rw [znA hc0,hc0]
 refine gq1 ?_
 refine zjD (xT _) hL ?_
 cases h3 : (h.seq != p.cert.seq)
 rotate_left
 ·refine gq2 h3 ?_
  refine zK hl ?_
  refine fin _ (no ?_)
  have : (h.seq == p.cert.seq) = false := by simpa using h3
  rw [hcf,zuH]
  split
  ·rw [this,Bool.and_false]
  ·rfl
 have h3' : (h.seq == p.cert.seq) = true := by simpa using h3
 cases h4 : zcN L (zsH h) with
 | none =>
  refine zbq h3 ?_
  refine zK hl ?_
  exact fin _ (no (by rw [hcf,zuH,h4]))
 | some i =>
  simp only [zji]
  simp only [zuH,h4,h3',Bool.and_true] at hcf
  cases h5 : (((i + 1 : Nat) : Int) != p.cert.dig)
  rotate_left
  ·refine zbq (zc h3 h5) ?_
   refine zK hl ?_
   exact fin _ (no (by rw [hcf]; simpa using h5))
  have hcf1 : zcG L p = true := by rw [hcf]; simpa using h5
  rw [if_neg (by simp [hcf1])] at v0
  refine zbq (zc h3 h5) ?_
  refine c_r14Valid (c := p.cert) (xT _) (xG _) hL hg hp.signs ?_
  cases h6 : zkX L G f p.cert
  ·refine gq1 ?_
   refine zK hl ?_
   exact fin _ (by rw [v0,if_pos h6])
  rw [if_neg (by simp [h6])] at v0
  obtain ⟨x,r,hxr⟩ := zpD hcf1
  have hgx : (zdf p.headers)[0]? = some (zuJ x) := by rw [hxr]; rfl
  have hrt : rootP p = x.root := by rw [rootP,hxr]
  refine gq1 ?_
  refine ztO (p := leafP p) (zjx hp) ?_
  refine gq2 hgx ?_
  refine c_r5Verify (by have := znO h1'; omega) (xT _) hL (zjg (zjx hp)) (fun y hy => (hp.paths y hy).2) ?_
  rw [hrt] at v0
  cases h7 : zfk L x.root (zaz (leafP p)) p.index p.count p.path
  ·refine gq1 ?_
   refine zK hl ?_
   exact fin _ (by rw [v0,if_pos h7])
  ·refine gq1 ?_
   refine zK hl ?_
   exact fin _ (by rw [v0,if_neg (by simp [h7])])
end Go.Proofs.YtfjommppajkpoaaGreat
