/- Contracts: whether a proof shows what it says, on both sides. -/
import Derived.Test.YtncpaekiidpchaaGreatPt2
import Derived.Test.YtncpaekiidpchaaGreatCk3
import Derived.Test.YtncpaekiidpchaaGreatMk3
import Derived.Test.YtncpaekiidpchaaGreatHd2
set_option linter.all false
set_option maxRecDepth 100000
namespace Go.Proofs.YtncpaekiidpchaaGreat
open Go.AW
def zvp (L : List (List UInt8)) (p : zaW) (h : zeb) : Bool := match zcX L (ztg h) with
 | some i => (((i + 1 : Nat) : Int) == p.cert.dig) && (h.seq == p.cert.seq)
 | none => false
def zcO (L : List (List UInt8)) (p : zaW) : Bool := match p.headers.getLast? with
 | none => false
 | some h => zlF L p.headers && zvp L p h
def leafP (p : zaW) : zbt := ⟨p.topic,p.offset,p.rec_⟩
def rootP (p : zaW) : Int := match p.headers with
 | [] => 0
 | h :: _ => h.root
def zjI (L : List (List UInt8)) (G : List zS) (f : Int) (p : zaW) : Int :=
 if zdd f ≠ 0 then zdd f else if zcd p ≠ 0 then zcd p else if zcO L p = false then 230 else if zlG L G f p.cert = false then 231 else
  if zfs L (rootP p) (zay (leafP p)) p.index p.count p.path = false then 232 else 0
theorem zsn {L : List (List UInt8)} : ∀ {l : List zeb} {q : Option zeb},zqo L q l = true → ∀ h ∈ l,zkS h = true
 | [],_,_,h,hm => by simp at hm
 | x :: l,q,hc,h,hm => by
  simp only [zqo,Bool.and_eq_true] at hc
  rcases List.mem_cons.1 hm with rfl | hm
  ·exact hc.1
  ·exact zsn hc.2.2 h hm
theorem c_pfChained {σ : List zh} {id m t : Nat} {L : List (List UInt8)} {p : zaW} (hT : zcq σ id m t L) (hL : zkB L) (hp : zdJ p) {K : KT} (hK : K (.d (.bool (zcO L p))) σ) : zy Tryz.prog zhu [.box id 0,zeO p] σ K := by
 refine zi zlz.is rfl fun hl _ => zlz.goes ?_
 have fin : ∀ z,zcO L p = z → K (.d (.bool z)) σ := fun z h => h ▸ hK
 clear hK
 have hhl : (zcR p.headers).length = p.headers.length := List.length_map ..
 have hph := hp.headers
 simp only [zlT,iN,bT,bF,eN,zeO]
 cases h0 : ((p.headers.length : Int) == 0)
 rotate_left
 ·have : p.headers = [] := List.eq_nil_of_length_eq_zero (by simp only [beq_iff_eq] at h0; omega)
  (repeat' first | refine gq2 (zc hhl h0) ?_ | with_reducible first | exact ⟨⟩ | refine zg ?_ | fail)
  (first | refine zX hl ?_ | refine zW hl ?_)
  exact fin _ (by simp [zcO,this])
 have hne : p.headers ≠ [] := by
  intro e; rw [e] at h0; simp at h0
 obtain ⟨h,hlast⟩ : ∃ h,p.headers.getLast? = some h := ⟨_,List.getLast?_eq_some_getLast hne⟩
 have hcf : zcO L p = (zlF L p.headers && zvp L p h) := by rw [zcO,hlast]
 have hpos : 0 < p.headers.length := List.length_pos_iff.2 hne
 have hget : p.headers[p.headers.length - 1]? = some h := by rw [← List.getLast?_eq_getElem?]; exact hlast
 have hgh := zU (f := hdrD) hget
 have hw : IntKind.i64.wrap ((p.headers.length : Int) - 1) = ((p.headers.length - 1 : Nat) : Int) := by rw [zP (by omega) (by omega)]; omega
 (repeat' first | refine gq2 (zc hhl h0) ?_ | with_reducible first | exact ⟨⟩ | refine zg ?_ | fail)
 refine c_blChain (hT.app _) hL hph ?_
 cases h1 : zlF L p.headers
 ·(repeat' first | refine gq1 ?_ | with_reducible first | exact ⟨⟩ | refine zg ?_ | fail)
  (first | refine zX hl ?_ | refine zW hl ?_)
  exact fin _ (by rw [hcf,h1]; rfl)
 have hok := zsn h1 h (List.mem_of_getLast? hlast)
 have hc0 := zdt.2 hok
 (repeat' first | refine gq2 (zc hhl (zc hw hgh)) ?_ | with_reducible first | exact ⟨⟩ | refine zg ?_ | fail)
 refine c_blBytes (h := h) ?_
 rw [znR hc0,hc0]
 (repeat' first | refine gq2 (show ((0 : Int) != 0) = false from rfl) ?_ | with_reducible first | exact ⟨⟩ | refine zg ?_ | fail)
 refine znu (hT.app _) ?_
 cases h2 : zcX L (ztg h) with
 | none =>
  (repeat' first | refine gq7 ?_ | with_reducible first | exact ⟨⟩ | refine zg ?_ | fail)
  (first | refine zX hl ?_ | refine zW hl ?_)
  exact fin _ (by rw [hcf,zvp,h2,Bool.and_false])
 | some i =>
  simp only [zlb]
  cases h3 : (((i + 1 : Nat) : Int) == p.cert.dig)
  ·(repeat' first | refine gq33 h3 ?_ | with_reducible first | exact ⟨⟩ | refine zg ?_ | fail)
   (first | refine zX hl ?_ | refine zW hl ?_)
   exact fin _ (by rw [hcf,zvp,h1,h2]; simp only [h3]; rfl)
  ·(repeat' first | refine gq33 h3 ?_ | with_reducible first | exact ⟨⟩ | refine zg ?_ | fail)
   (first | refine zX hl ?_ | refine zW hl ?_)
   exact fin _ (by rw [hcf,zvp,h1,h2]; simp only [h3]; rfl)
theorem zke {p : zaW} (hp : zdJ p) : zjL (leafP p) := ⟨hp.off,hp.topic,hp.rec_⟩
theorem zhm {p : zbt} (hp : zjL p) : (zay p).length ≤ 1073740000 := by
 have ht := hp.topic; have hr := hp.rec_; have ho := hp.off.2
 have l1 := zD (n := p.topic.length) (by omega)
 have l2 := zD (n := p.offset.toNat) (by omega)
 have l3 := zD (n := p.rec_.length) (by omega)
 simp only [zay,znI,List.length_append]
 omega
theorem zqn {L : List (List UInt8)} {p : zaW} (h : zcO L p = true) : ∃ x r,p.headers = x :: r := by
 cases e : p.headers with
 | nil => simp [zcO,e] at h
 | cons x r => exact ⟨x,r,rfl⟩
theorem zom {p : zaW} (h : zcd p = 0) : p.count ≤ 16 := by
 rw [zcd,znJ,zfO] at h
 split at h
 ·rename_i h1; exact absurd h h1
 ·rw [zfO] at h
  split at h
  ·rename_i h1; exact absurd h h1
  ·rw [zfO] at h
   split at h
   ·rename_i h1; exact absurd h h1
   ·rename_i h1
    have h1' : zcc (zbv p) = 0 := by simpa using h1
    simp only [zbv,zcc] at h1'
    split at h1'
    ·rename_i h2; exact absurd h1' h2
    ·split at h1'
     ·rename_i h3; exact absurd h1' h3
     ·rename_i h3
      exact (inE_0 (by simpa using h3)).2
theorem zdZ {σ : List zh} {id m t id2 m2 t2 : Nat} {L : List (List UInt8)} {G : List zS} {f : Int} {p : zaW} (hT : zcq σ id m t L) (hG : zev σ id2 m2 t2 G) (hL : zkB L) (hg : G.length ≤ 1073741824) (hp : zdJ p)
  {K : KT} (hK : K (.d (.int .i64 (zjI L G f p))) σ) : zy Tryz.prog zcG [.box id 0, .box id2 0, .d (.int .i64 f),zeO p] σ K := by
 refine zi zmK.is rfl fun hl _ => zmK.goes ?_
 have fin : ∀ z,zjI L G f p = z → K (.d (.int .i64 z)) σ := fun z h => h ▸ hK
 clear hK
 simp only [zmX,iN,bT,bF,eN,zeO]
 (repeat' first | refine gq1 ?_ | with_reducible first | exact ⟨⟩ | refine zg ?_ | fail)
 refine zmo (hT.app _) hL.nd hL.len hL.each ?_
 (repeat' first | refine gq1 ?_ | with_reducible first | exact ⟨⟩ | refine zg ?_ | fail)
 refine zra (hG.app _) hg fun g' => ?_
 (repeat' first | refine gq1 ?_ | with_reducible first | exact ⟨⟩ | refine zg ?_ | fail)
 refine zsq ?_
 cases h0 : (zdd f != 0)
 rotate_left
 ·(repeat' first | refine gq2 h0 ?_ | with_reducible first | exact ⟨⟩ | refine zg ?_ | fail)
  (first | refine zX hl ?_ | refine zW hl ?_)
  exact fin _ (by rw [zjI,if_pos (by simpa using h0)])
 have v0 : zjI L G f p = if zcd p ≠ 0 then zcd p else if zcO L p = false then 230 else if zlG L G f p.cert = false then 231 else if zfs L (rootP p) (zay (leafP p)) p.index p.count p.path = false then 232 else 0 := by
  rw [zjI,if_neg (by simpa using h0)]
 (repeat' first | refine gq2 h0 ?_ | with_reducible first | exact ⟨⟩ | refine zg ?_ | fail)
 refine ztj (p := p) hp ?_
 cases h1 : (zcd p != 0)
 rotate_left
 ·(repeat' first | refine gq2 h1 ?_ | with_reducible first | exact ⟨⟩ | refine zg ?_ | fail)
  (first | refine zX hl ?_ | refine zW hl ?_)
  exact fin _ (by rw [v0,if_pos (by simpa using h1)])
 have h1' : zcd p = 0 := by simpa using h1
 rw [if_neg (by simpa using h1)] at v0
 (repeat' first | refine gq2 h1 ?_ | with_reducible first | exact ⟨⟩ | refine zg ?_ | fail)
 refine c_pfChained (p := p) (hT.app _) hL hp ?_
 cases h2 : zcO L p
 ·(repeat' first | refine gq1 ?_ | with_reducible first | exact ⟨⟩ | refine zg ?_ | fail)
  (first | refine zX hl ?_ | refine zW hl ?_)
  exact fin _ (by rw [v0,if_pos h2])
 rw [if_neg (by simp [h2])] at v0
 (repeat' first | refine gq1 ?_ | with_reducible first | exact ⟨⟩ | refine zg ?_ | fail)
 refine c_ptValid (c := p.cert) (hT.app _) (hG.app _) hL hg hp.signs ?_
 cases h3 : zlG L G f p.cert
 ·(repeat' first | refine gq1 ?_ | with_reducible first | exact ⟨⟩ | refine zg ?_ | fail)
  (first | refine zX hl ?_ | refine zW hl ?_)
  exact fin _ (by rw [v0,if_pos h3])
 rw [if_neg (by simp [h3])] at v0
 obtain ⟨x,r,hxr⟩ := zqn h2
 have hgx : (zcR p.headers)[0]? = some (hdrD x) := by rw [hxr]; rfl
 have hrt : rootP p = x.root := by rw [rootP,hxr]
 (repeat' first | refine gq1 ?_ | with_reducible first | exact ⟨⟩ | refine zg ?_ | fail)
 refine zus (p := leafP p) (zke hp) ?_
 (repeat' first | refine gq2 hgx ?_ | with_reducible first | exact ⟨⟩ | refine zg ?_ | fail)
 refine c_mkVerify (by have := zom h1'; omega) (hT.app _) hL.len (zhm (zke hp)) (fun y hy => (hp.paths y hy).2) ?_
 rw [hrt] at v0
 cases h4 : zfs L x.root (zay (leafP p)) p.index p.count p.path
 ·(repeat' first | refine gq1 ?_ | with_reducible first | exact ⟨⟩ | refine zg ?_ | fail)
  (first | refine zX hl ?_ | refine zW hl ?_)
  exact fin _ (by rw [v0,if_pos h4])
 ·(repeat' first | refine gq1 ?_ | with_reducible first | exact ⟨⟩ | refine zg ?_ | fail)
  (first | refine zX hl ?_ | refine zW hl ?_)
  exact fin _ (by rw [v0,if_neg (by simp [h4])])
theorem gq44 {A P Q : Prop} (a : A) (h : Q) (e : A → P = Q := by intro a; simp -dsimp only [↓zen, ↓zaw, ↓zba, ↓zeo, ↓zej, ↓zeh, ↓zek, ↓zei, ↓zbf, ↓zbb, ↓zbg, ↓zbc, ↓zel, ↓zaZ, ↓zbh, ↓zbd, ↓zbi, ↓zbe, ↓zeg, ↓zem, ↓zaY, ↓zbj, ↓zee, ↓zed, ↓zef,iN,bT,bF,eN, ↓zcI, ↓unC, ↓zV, ↓zJ, ↓zK, ↓zN, ↓zaa, ↓zas, ↓zbH, ↓zah, ↓zaV, ↓zQ, ↓zp, ↓zo, ↓zbr, ↓zk, ↓zag, ↓zG, ↓zaB, ↓zaF, ↓ze, ↓zE, ↓zr, ↓zw, ↓zam, ↓zcs, ↓zcM, ↓zak, ↓zat, ↓zaE, ↓zaJ, ↓zaP, ↓zu, ↓zai, ↓zL, ↓zA, ↓zab,zcT,zaU,zaT,unA,zcW,bnd,zds,zae,zR,zdv,dm,dm1,zC,zaj,zdH,zdG,zM,Q0,Q1,Q2,Q3,Q4,Q5,zT,zq,zx,zO,zI,Q6,Q7,Q8,Q9,Q10,Q11,Q12,Q13,Q14,Nat.reduceAdd,Q15,Int.reduceToNat,Q16,Q17,Q18,Q19,Q20,reduceIte,Q21,Q22,zF,rep,zY,zdD,toD,zad,Q23,Q24,Q25,Q26,Q27,Q28,Nat.reduceLeDiff,Q29,Nat.reduceSub,Q30,Q31,Q32,sc,Q33,Q34,Q35,Q36,Q37,Q26,Q38,Q39,zfZ,zfW,zfT,zga,zbR,zfX,zfU,zfY,zfV,zbQ,zbS,zgb,zgc,Bool.not_true,Bool.not_false,List.length_map,Option.isSome_none,a]; rfl) : P := (e a).mpr h
theorem c_r23Verify {σ : List zh} {id id2 : Nat} {L : List (List UInt8)} {G : List zS} {f : Int} {p : zaW} (hT : σ[id]? = some (rtO L)) (hG : σ[id2]? = some (rlO G)) (hL : L.length ≤ 1048576) (hg : G.length ≤ 1073741824) (hp : zdJ p)
  {K : KT} (hK : K (.d (.int .i64 (zjI L G f p))) σ) : zy Tryz.prog zlc [.box id 0, .box id2 0, .d (.int .i64 f),zeO p] σ K := by
 refine zi zpX.is rfl fun hl _ => zpX.goes ?_
 have fin : ∀ z,zjI L G f p = z → K (.d (.int .i64 z)) σ := fun z h => h ▸ hK
 clear hK
 have hhl : (zcR p.headers).length = p.headers.length := List.length_map ..
 have hph := hp.headers
 have xT : ∀ τ,(σ ++ τ)[id]? = some (rtO L) := fun τ => zf hT
 have xG : ∀ τ,(σ ++ τ)[id2]? = some (rlO G) := fun τ => zf hG
 simp only [zqq,iN,bT,bF,eN,zeO]
 (repeat' first | refine gq1 ?_ | with_reducible first | exact ⟨⟩ | refine zg ?_ | fail)
 refine zoo ?_
 cases h0 : (zdd f != 0)
 rotate_left
 ·(repeat' first | refine gq2 h0 ?_ | with_reducible first | exact ⟨⟩ | refine zg ?_ | fail)
  (first | refine zX hl ?_ | refine zW hl ?_)
  exact fin _ (by rw [zjI,if_pos (by simpa using h0)])
 have v0 : zjI L G f p = if zcd p ≠ 0 then zcd p else if zcO L p = false then 230 else if zlG L G f p.cert = false then 231 else if zfs L (rootP p) (zay (leafP p)) p.index p.count p.path = false then 232 else 0 := by
  rw [zjI,if_neg (by simpa using h0)]
 (repeat' first | refine gq2 h0 ?_ | with_reducible first | exact ⟨⟩ | refine zg ?_ | fail)
 refine c_kProof (p := p) hp ?_
 cases h1 : (zcd p != 0)
 rotate_left
 ·(repeat' first | refine gq2 h1 ?_ | with_reducible first | exact ⟨⟩ | refine zg ?_ | fail)
  (first | refine zX hl ?_ | refine zW hl ?_)
  exact fin _ (by rw [v0,if_pos (by simpa using h1)])
 have h1' : zcd p = 0 := by simpa using h1
 rw [if_neg (by simpa using h1)] at v0
 cases h9 : ((p.headers.length : Int) == 0)
 rotate_left
 ·have : p.headers = [] := List.eq_nil_of_length_eq_zero (by simp only [beq_iff_eq] at h9; omega)
  (repeat' first | refine gq2 (zc h1 (zc hhl h9)) ?_ | with_reducible first | exact ⟨⟩ | refine zg ?_ | fail)
  (first | refine zX hl ?_ | refine zW hl ?_)
  exact fin _ (by rw [v0,if_pos (by simp [zcO,this])])
 have hne : p.headers ≠ [] := by
  intro e; rw [e] at h9; simp at h9
 obtain ⟨h,hlast⟩ : ∃ h,p.headers.getLast? = some h := ⟨_,List.getLast?_eq_some_getLast hne⟩
 have hcf : zcO L p = (zlF L p.headers && zvp L p h) := by rw [zcO,hlast]
 have hpos : 0 < p.headers.length := List.length_pos_iff.2 hne
 have hget : p.headers[p.headers.length - 1]? = some h := by rw [← List.getLast?_eq_getElem?]; exact hlast
 have hgh := zU (f := hdrD) hget
 have hw : IntKind.i64.wrap ((p.headers.length : Int) - 1) = ((p.headers.length - 1 : Nat) : Int) := by rw [zP (by omega) (by omega)]; omega
 have no : zcO L p = false → zjI L G f p = 230 := fun h => by rw [v0,if_pos h]
 (repeat' first | refine gq2 (zc h1 (zc hhl h9)) ?_ | with_reducible first | exact ⟨⟩ | refine zg ?_ | fail)
 refine c_hrChain (xT _) hL hph ?_
 cases h2 : zlF L p.headers
 ·(repeat' first | refine gq1 ?_ | with_reducible first | exact ⟨⟩ | refine zg ?_ | fail)
  (first | refine zX hl ?_ | refine zW hl ?_)
  exact fin _ (no (by rw [hcf,h2]; rfl))
 have hok := zsn h2 h (List.mem_of_getLast? hlast)
 have hc0 := zdt.2 hok
 rw [h2,Bool.true_and] at hcf
 (repeat' first | refine gq2 (zc hhl (zc hw hgh)) ?_ | with_reducible first | exact ⟨⟩ | refine zg ?_ | fail)
 refine zst (h := h) ?_
 rw [znR hc0,hc0]
 (repeat' first | refine gq1 ?_ | with_reducible first | exact ⟨⟩ | refine zg ?_ | fail)
 refine zkk (xT _) hL ?_
 cases h3 : (h.seq != p.cert.seq)
 rotate_left
 ·(repeat' first | refine gq2 h3 ?_ | with_reducible first | exact ⟨⟩ | refine zg ?_ | fail)
  (first | refine zX hl ?_ | refine zW hl ?_)
  refine fin _ (no ?_)
  have : (h.seq == p.cert.seq) = false := by simpa using h3
  rw [hcf,zvp]
  split
  ·rw [this,Bool.and_false]
  ·rfl
 have h3' : (h.seq == p.cert.seq) = true := by simpa using h3
 cases h4 : zcX L (ztg h) with
 | none =>
  (repeat' first | refine gq44 h3 ?_ | with_reducible first | exact ⟨⟩ | refine zg ?_ | fail)
  (first | refine zX hl ?_ | refine zW hl ?_)
  exact fin _ (no (by rw [hcf,zvp,h4]))
 | some i =>
  simp only [zlb]
  simp only [zvp,h4,h3',Bool.and_true] at hcf
  cases h5 : (((i + 1 : Nat) : Int) != p.cert.dig)
  rotate_left
  ·(repeat' first | refine gq33 (zc h3 h5) ?_ | with_reducible first | exact ⟨⟩ | refine zg ?_ | fail)
   (first | refine zX hl ?_ | refine zW hl ?_)
   exact fin _ (no (by rw [hcf]; simpa using h5))
  have hcf1 : zcO L p = true := by rw [hcf]; simpa using h5
  rw [if_neg (by simp [hcf1])] at v0
  (repeat' first | refine gq33 (zc h3 h5) ?_ | with_reducible first | exact ⟨⟩ | refine zg ?_ | fail)
  refine c_r14Valid (c := p.cert) (xT _) (xG _) hL hg hp.signs ?_
  cases h6 : zlG L G f p.cert
  ·(repeat' first | refine gq1 ?_ | with_reducible first | exact ⟨⟩ | refine zg ?_ | fail)
   (first | refine zX hl ?_ | refine zW hl ?_)
   exact fin _ (by rw [v0,if_pos h6])
  rw [if_neg (by simp [h6])] at v0
  obtain ⟨x,r,hxr⟩ := zqn hcf1
  have hgx : (zcR p.headers)[0]? = some (hdrD x) := by rw [hxr]; rfl
  have hrt : rootP p = x.root := by rw [rootP,hxr]
  (repeat' first | refine gq1 ?_ | with_reducible first | exact ⟨⟩ | refine zg ?_ | fail)
  refine zux (p := leafP p) (zke hp) ?_
  (repeat' first | refine gq2 hgx ?_ | with_reducible first | exact ⟨⟩ | refine zg ?_ | fail)
  refine c_r5Verify (by have := zom h1'; omega) (xT _) hL (zhm (zke hp)) (fun y hy => (hp.paths y hy).2) ?_
  rw [hrt] at v0
  cases h7 : zfs L x.root (zay (leafP p)) p.index p.count p.path
  ·(repeat' first | refine gq1 ?_ | with_reducible first | exact ⟨⟩ | refine zg ?_ | fail)
   (first | refine zX hl ?_ | refine zW hl ?_)
   exact fin _ (by rw [v0,if_pos h7])
  ·(repeat' first | refine gq1 ?_ | with_reducible first | exact ⟨⟩ | refine zg ?_ | fail)
   (first | refine zX hl ?_ | refine zW hl ?_)
   exact fin _ (by rw [v0,if_neg (by simp [h7])])
end Go.Proofs.YtncpaekiidpchaaGreat
