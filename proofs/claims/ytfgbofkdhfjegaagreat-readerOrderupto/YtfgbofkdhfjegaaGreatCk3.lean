/- Contracts: whether a proof may be, the document's. -/
import Derived.Test.YtfgbofkdhfjegaaGreatPt2
import Derived.Test.YtfgbofkdhfjegaaGreatOp1
import Derived.Test.YtfgbofkdhfjegaaGreatMk2
import Derived.Test.YtfgbofkdhfjegaaGreatHd1
import Derived.Test.YtfgbofkdhfjegaaGreatAwEnd
import Derived.Test.YtfgbofkdhfjegaaGreatSpUtf
import Derived.Test.YtfgbofkdhfjegaaGreatQu1
import Derived.Test.YtfgbofkdhfjegaaGreatOpC
import Derived.Test.YtfgbofkdhfjegaaGreatCk1
set_option linter.all false
set_option maxRecDepth 100000
namespace Go.Proofs.YtfgbofkdhfjegaaGreat
open Go.AW
def lastF (L : List (List UInt8)) (p : zca) (h : zcW) : Bool := match zdc L (zoT h) with
 | some i => (((i + 1 : Nat) : Int) == p.cert.dig) && (h.seq == p.cert.seq)
 | none => false
def zgF (L : List (List UInt8)) (p : zca) : Bool := match p.headers.getLast? with
 | none => false
 | some h => zuM L p.headers && lastF L p h
def leafP (p : zca) : zaX := ⟨p.topic,p.offset,p.rec_⟩
def rootP (p : zca) : Int := match p.headers with
 | [] => 0
 | h :: _ => h.root
def verPF (L : List (List UInt8)) (G : List zJ) (f : Int) (p : zca) : Int :=
 if zdD f ≠ 0 then zdD f else if zgc p ≠ 0 then zgc p else if zgF L p = false then 230 else if zwd L G f p.cert = false then 231 else
  if zks L (rootP p) (zaG (leafP p)) p.index p.count p.path = false then 232 else 0
theorem chain_all {L : List (List UInt8)} : ∀ {l : List zcW} {q : Option zcW},zsW L q l = true → ∀ h ∈ l,zjO h = true
 | [],_,_,h,hm => by simp at hm
 | x :: l,q,hc,h,hm => by
  simp only [zsW,Bool.and_eq_true] at hc
  rcases List.mem_cons.1 hm with rfl | hm
  ·exact hc.1
  ·exact chain_all hc.2.2 h hm
theorem c_pfChained {σ : List zh} {id m t : Nat} {L : List (List UInt8)} {p : zca} (hT : zdo σ id m t L) (hL : zlH L) (hp : zfM p) {K : KT} (hK : K (.d (.bool (zgF L p))) σ) : zr Tryz.prog zhY [.box id 0,zhh p] σ K := by
 refine zfJ zsJ fun hl => ?_
 have fin : ∀ z,zgF L p = z → K (.d (.bool z)) σ := fun z h => h ▸ hK
 clear hK
 have hhl : (zio p.headers).length = p.headers.length := List.length_map ..
 have hph := hp.headers
 simp only [zmt,iN,bT,bF,eN,zhh]
 cases h0 : ((p.headers.length : Int) == 0)
 rotate_left
 ·have : p.headers = [] := List.eq_nil_of_length_eq_zero (by simp only [beq_iff_eq] at h0; omega)
  refine gq2 (zf hhl h0) ?_
  refine zV hl ?_
  exact fin _ (by simp [zgF,this])
 have hne : p.headers ≠ [] := by
  intro e; rw [e] at h0; simp at h0
 obtain ⟨h,hlast⟩ : ∃ h,p.headers.getLast? = some h := ⟨_,List.getLast?_eq_some_getLast hne⟩
 have hcf : zgF L p = (zuM L p.headers && lastF L p h) := by rw [zgF,hlast]
 have hpos : 0 < p.headers.length := List.length_pos_iff.2 hne
 have hget : p.headers[p.headers.length - 1]? = some h := by rw [← List.getLast?_eq_getElem?]; exact hlast
 have hgh := zR (f := hdrD) hget
 have hw : IntKind.i64.wrap ((p.headers.length : Int) - 1) = ((p.headers.length - 1 : Nat) : Int) := by rw [zU (by omega) (by omega)]; omega
 refine gq2 (zf hhl h0) ?_
 refine c_blChain (hT.app _) hL hph ?_
 cases h1 : zuM L p.headers
 ·refine gq1 ?_
  refine zV hl ?_
  exact fin _ (by rw [hcf,h1]; rfl)
 have hok := chain_all h1 h (List.mem_of_getLast? hlast)
 have hc0 := zdV.2 hok
 refine gq2 (zf hhl (zf hw hgh)) ?_
 refine c_blBytes (h := h) ?_
 rw [zvK hc0,hc0]
 refine gq2 (show ((0 : Int) != 0) = false from rfl) ?_
 refine zoq (hT.app _) ?_
 cases h2 : zdc L (zoT h) with
 | none =>
  refine gq5 ?_
  refine zV hl ?_
  exact fin _ (by rw [hcf,lastF,h2,Bool.and_false])
 | some i =>
  simp only [zjH]
  cases h3 : (((i + 1 : Nat) : Int) == p.cert.dig)
  ·refine zoV h3 ?_
   refine zV hl ?_
   exact fin _ (by rw [hcf,lastF,h1,h2]; simp only [h3]; rfl)
  ·refine zoV h3 ?_
   refine zV hl ?_
   exact fin _ (by rw [hcf,lastF,h1,h2]; simp only [h3]; rfl)
theorem zso {p : zca} (hp : zfM p) : zlJ (leafP p) := ⟨hp.off,hp.topic,hp.rec_⟩
theorem znN {p : zaX} (hp : zlJ p) : (zaG p).length ≤ 1073740000 := by
 have ht := hp.topic; have hr := hp.rec_; have ho := hp.off.2
 have l1 := zF (n := p.topic.length) (by omega)
 have l2 := zF (n := p.offset.toNat) (by omega)
 have l3 := zF (n := p.rec_.length) (by omega)
 simp only [zaG,zoH,List.length_append]
 omega
theorem chained_head {L : List (List UInt8)} {p : zca} (h : zgF L p = true) : ∃ x r,p.headers = x :: r := by
 cases e : p.headers with
 | nil => simp [zgF,e] at h
 | cons x r => exact ⟨x,r,rfl⟩
theorem zwc {p : zca} (h : zgc p = 0) : p.count ≤ 16 := by
 rw [zgc,ziU,zhK] at h
 split at h
 ·rename_i h1; exact absurd h h1
 ·rw [zhK] at h
  split at h
  ·rename_i h1; exact absurd h h1
  ·rw [zhK] at h
   split at h
   ·rename_i h1; exact absurd h h1
   ·rename_i h1
    have h1' : zcD (zcZ p) = 0 := by simpa using h1
    simp only [zcZ,zcD] at h1'
    split at h1'
    ·rename_i h2; exact absurd h1' h2
    ·split at h1'
     ·rename_i h3; exact absurd h1' h3
     ·rename_i h3
      exact (inE_0 (by simpa using h3)).2
theorem c_pfVerify {σ : List zh} {id m t id2 m2 t2 : Nat} {L : List (List UInt8)} {G : List zJ} {f : Int} {p : zca} (hT : zdo σ id m t L) (hG : zee σ id2 m2 t2 G) (hL : zlH L) (hg : G.length ≤ 1073741824) (hp : zfM p)
  {K : KT} (hK : K (.d (.int .i64 (verPF L G f p))) σ) : zr Tryz.prog zjs [.box id 0, .box id2 0, .d (.int .i64 f),zhh p] σ K := by
 refine acE4 ztU fun hl => ?_
 have fin : ∀ z,verPF L G f p = z → K (.d (.int .i64 z)) σ := fun z h => h ▸ hK
 clear hK
 simp only [znC,iN,bT,bF,eN,zhh]
 refine gq1 ?_
 refine zpj (hT.app _) hL.nd hL.len hL.each ?_
 refine gq1 ?_
 refine zpn (hG.app _) hg fun g' => ?_
 refine gq1 ?_
 refine zpm ?_
 cases h0 : (zdD f != 0)
 rotate_left
 ·refine gq2 h0 ?_
  refine zV hl ?_
  exact fin _ (by rw [verPF,if_pos (by simpa using h0)])
 have v0 : verPF L G f p = if zgc p ≠ 0 then zgc p else if zgF L p = false then 230 else if zwd L G f p.cert = false then 231 else if zks L (rootP p) (zaG (leafP p)) p.index p.count p.path = false then 232 else 0 := by
  rw [verPF,if_neg (by simpa using h0)]
 refine gq2 h0 ?_
 refine ztY (p := p) hp ?_
 cases h1 : (zgc p != 0)
 rotate_left
 ·refine gq2 h1 ?_
  refine zV hl ?_
  exact fin _ (by rw [v0,if_pos (by simpa using h1)])
 have h1' : zgc p = 0 := by simpa using h1
 rw [if_neg (by simpa using h1)] at v0
 refine gq2 h1 ?_
 refine c_pfChained (p := p) (hT.app _) hL hp ?_
 cases h2 : zgF L p
 ·refine gq1 ?_
  refine zV hl ?_
  exact fin _ (by rw [v0,if_pos h2])
 rw [if_neg (by simp [h2])] at v0
 refine gq1 ?_
 refine c_ptValid (c := p.cert) (hT.app _) (hG.app _) hL hg hp.signs ?_
 cases h3 : zwd L G f p.cert
 ·refine gq1 ?_
  refine zV hl ?_
  exact fin _ (by rw [v0,if_pos h3])
 rw [if_neg (by simp [h3])] at v0
 obtain ⟨x,r,hxr⟩ := chained_head h2
 have hgx : (zio p.headers)[0]? = some (hdrD x) := by rw [hxr]; rfl
 have hrt : rootP p = x.root := by rw [rootP,hxr]
 refine gq1 ?_
 refine c_toPlaced (p := leafP p) (zso hp) ?_
 refine gq2 hgx ?_
 refine c_mkVerify (by have := zwc h1'; omega) (hT.app _) hL.len (znN (zso hp)) (fun y hy => (hp.paths y hy).2) ?_
 rw [hrt] at v0
 cases h4 : zks L x.root (zaG (leafP p)) p.index p.count p.path
 ·refine gq1 ?_
  refine zV hl ?_
  exact fin _ (by rw [v0,if_pos h4])
 ·refine gq1 ?_
  refine zV hl ?_
  exact fin _ (by rw [v0,if_neg (by simp [h4])])
end Go.Proofs.YtfgbofkdhfjegaaGreat

/- Maps keyed by integers: what is found after a put. -/
namespace Go.AW
abbrev ents (l : List (Int × AV)) : List (AV × AV) := l.map fun e => (.d (.int .i64 e.1),e.2)
structure Rd where
 b : List UInt8
 e : Int
def Rd.fail (cut : Bool) (s : Rd) (x : Int) : Rd := if s.e = 0 ∧ x ≠ 0 then ⟨if cut then [] else s.b,x⟩ else s
def numP (cut : Bool) (most : Nat) (s : Rd) : Nat × Rd :=
 if s.e = 0 then (match numR most 0 0 s.b with | .ok (n,r) => (n,⟨r, 0⟩) | .error x => (0,s.fail cut x)) else (0,s)
def takeP (cut : Bool) (n : Nat) (s : Rd) : List UInt8 × Rd :=
 if s.e = 0 then (if n > s.b.length then ([],s.fail cut 10) else (s.b.take n,⟨s.b.drop n, 0⟩)) else ([],s)
def znt (cut : Bool) (most : Nat) (s : Rd) : List UInt8 × Rd := takeP cut (numP cut most s).1 (numP cut most s).2
def zvD (cut : Bool) : Nat → Rd → List (List UInt8) × Rd
 | 0,s => ([],s)
 | k + 1,s => ((zvD cut k s).1 ++ [(znt cut 64 (zvD cut k s).2).1],(znt cut 64 (zvD cut k s).2).2)
def zsD (cut : Bool) (k : Nat) (s : Rd) : TOp × Rd :=
 let t := znt cut 64 s
 if k = 0 then (noOp,s)
 else if k = 2 then (let n := numP cut 4 t.2; let r := zvD cut n.1 n.2; (⟨k,t.1, [], 0,r.1⟩,r.2))
 else if k = 3 then (let g := znt cut 64 t.2; let f := numP cut 9007199254740992 g.2; (⟨k,t.1,g.1,f.1, []⟩,f.2))
 else if k = 4 then (let f := numP cut 9007199254740992 t.2; (⟨k,t.1, [],f.1, []⟩,f.2))
 else (⟨k,t.1, [], 0, []⟩,t.2)
def Rd.like (s t : Rd) : Prop := s.e = t.e ∧ (s.e = 0 → s.b = t.b)
theorem Rd.like.fail {s t : Rd} {c d : Bool} {x : Int} (h : s.like t) : (s.fail c x).like (t.fail d x) := by
 obtain ⟨h1,h2⟩ := h
 unfold Rd.fail Rd.like
 grind
theorem Rd.like.num {s t : Rd} {c d : Bool} {m : Nat} (h : s.like t) : (numP c m s).1 = (numP d m t).1 ∧ (numP c m s).2.like (numP d m t).2 := by
 have hf : ∀ x,(s.fail c x).like (t.fail d x) := fun x => h.fail
 obtain ⟨h1,h2⟩ := h
 unfold numP
 by_cases h0 : s.e = 0
 ·rw [if_pos h0,if_pos (show t.e = 0 from h1 ▸ h0),h2 h0]
  cases numR m 0 0 t.b with
  | ok x => exact ⟨rfl,rfl,fun _ => rfl⟩
  | error x => exact ⟨rfl,hf x⟩
 ·rw [if_neg h0,if_neg (h1 ▸ h0)]
  exact ⟨rfl,h1,h2⟩
theorem Rd.like.take {s t : Rd} {c d : Bool} {m : Nat} (h : s.like t) : (takeP c m s).1 = (takeP d m t).1 ∧ (takeP c m s).2.like (takeP d m t).2 := by
 have hf : ∀ x,(s.fail c x).like (t.fail d x) := fun x => h.fail
 obtain ⟨h1,h2⟩ := h
 unfold takeP
 by_cases h0 : s.e = 0
 ·rw [if_pos h0,if_pos (show t.e = 0 from h1 ▸ h0),h2 h0]
  split
  ·exact ⟨rfl,hf 10⟩
  ·exact ⟨rfl,rfl,fun _ => rfl⟩
 ·rw [if_neg h0,if_neg (h1 ▸ h0)]
  exact ⟨rfl,h1,h2⟩
theorem Rd.like.bytes {s t : Rd} {c d : Bool} {m : Nat} (h : s.like t) : (znt c m s).1 = (znt d m t).1 ∧ (znt c m s).2.like (znt d m t).2 := by
 have a := h.num (c := c) (d := d) (m := m)
 have := a.2.take (c := c) (d := d) (m := (numP c m s).1)
 unfold znt
 rw [← a.1]
 exact this
theorem Rd.like.recs {s t : Rd} {c d : Bool} (h : s.like t) : ∀ k,(zvD c k s).1 = (zvD d k t).1 ∧ (zvD c k s).2.like (zvD d k t).2
 | 0 => ⟨rfl,h⟩
 | k + 1 => by
  obtain ⟨a,b⟩ := Rd.like.recs h (c := c) (d := d) k
  have e := b.bytes (c := c) (d := d) (m := 64)
  exact ⟨by simp only [zvD,a,e.1],e.2⟩
theorem Rd.like.fields {s t : Rd} {c d : Bool} (h : s.like t) (k : Nat) : (zsD c k s).1 = (zsD d k t).1 ∧ (zsD c k s).2.like (zsD d k t).2 := by
 obtain ⟨t1,t2⟩ := h.bytes (c := c) (d := d) (m := 64)
 obtain ⟨n1,n2⟩ := t2.num (c := c) (d := d) (m := 4)
 obtain ⟨r1,r2⟩ := n2.recs (c := c) (d := d) (numP c 4 (znt c 64 s).2).1
 obtain ⟨g1,g2⟩ := t2.bytes (c := c) (d := d) (m := 64)
 obtain ⟨f1,f2⟩ := g2.num (c := c) (d := d) (m := 9007199254740992)
 obtain ⟨e1,e2⟩ := t2.num (c := c) (d := d) (m := 9007199254740992)
 unfold zsD
 simp only
 split
 ·exact ⟨rfl,h⟩
 ·split
  ·rw [← n1, ← r1, ← t1]; exact ⟨rfl,r2⟩
  ·split
   ·rw [← t1, ← g1, ← f1]; exact ⟨rfl,f2⟩
   ·split
    ·rw [← t1, ← e1]; exact ⟨rfl,e2⟩
    ·rw [← t1]; exact ⟨rfl,t2⟩
theorem zsT : ∀ (f : Nat) (s : List UInt8) (n : Nat),zdC f s = some n → s.length ≤ 4 * n
 | 0,_,_,h => by simp [zdC] at h
 | f + 1,s,n,h => by
  simp only [zdC] at h
  split at h
  ·rename_i h0; cases h; simp [h0]
  ·split at h
   ·cases h
   ·simp only [Option.map_eq_some_iff] at h
    obtain ⟨m,hm,rfl⟩ := h
    have := zsT f _ m hm
    have h4 := (zjZ s).2.1
    simp only [List.length_drop] at *
    omega
theorem name_len {s : List UInt8} (h : zdZ s = true) : s.length ≤ 64 := by
 simp only [zdZ,zgI,decide_eq_true_eq] at h
 cases e : zdC (s.length + 1) s with
 | none => simp [e] at h
 | some n =>
  have := zsT _ s n e
  simp only [e] at h
  by_cases h16 : n > 16
  ·simp [h16] at h
  ·omega
end Go.AW

/- Contracts: certificates that are kept. -/
set_option maxRecDepth 100000
namespace Go.Proofs.YtfgbofkdhfjegaaGreat
open Go.AW
abbrev hE (l : List (Int × zow)) : List (AV × AV) := ents (l.map fun e => (e.1,prepA e.2))
structure HeldAt (σ : List zh) (h m : Nat) (l : List (Int × zow)) : Prop where
 box : σ[h]? = some (.box [.map m])
 map : σ[m]? = some (.map (hE l))
theorem HeldAt.app {σ : List zh} {h m : Nat} {l : List (Int × zow)} (H : HeldAt σ h m l) (τ : List zh) : HeldAt (σ ++ τ) h m l := ⟨zd H.box,zd H.map⟩
theorem c_clRec {σ : List zh} {l : List UInt8} (hn : l.length ≤ 1073741824) {K : KT} (hK : K (.d (.slice (bcs l))) σ) : zr Tryz.prog zbt [.d (.slice (bcs l))] σ K := by
 refine zgk zgU fun hl => ?_
 have hlen := zaJ l
 have h2 : ∀ e ∈ bcs l,e.length = 1 := zgd
 simp only [zdE,iN,bT,bF,eN,zao,zdy]
 obtain ⟨es,hes⟩ : ∃ es,bcs l = es := ⟨_,rfl⟩
 rw [hes] at hlen h2 hK ⊢
 cases es with
 | nil =>
  refine ⟨?_, ?_⟩
  ·refine gq1 ?_
   refine zV hl ?_
   exact hK
  ·refine gq1 ?_
   refine zV hl ?_
   exact hK
 | cons e es =>
  simp only [zW,zE,zC,zS,rep,zw,zeF,zaj,zB,zdY]
  refine ⟨h2,by simp,by rw [hlen]; simp; omega, ?_⟩
  refine zV hl ?_
  exact hK
abbrev nilPf : zh := .box [.d (.str []), .d (.int .i64 0), .exact [], .exact [], .d (.int .i64 0), .d (.int .i64 0), .exact [], .d (.int .i64 0), .d (.int .i64 0), .exact []]
end Go.Proofs.YtfgbofkdhfjegaaGreat
