/- Contracts: whether a proof may be, the document's. -/
import Derived.Test.YtncpaekiidpchaaGreatPt2
import Derived.Test.YtncpaekiidpchaaGreatOp1
import Derived.Test.YtncpaekiidpchaaGreatSpVote
import Derived.Test.YtncpaekiidpchaaGreatHd2
import Derived.Test.YtncpaekiidpchaaGreatAwEnd
import Derived.Test.YtncpaekiidpchaaGreatSpUtf
import Derived.Test.YtncpaekiidpchaaGreatPp1
import Derived.Test.YtncpaekiidpchaaGreatOpC
set_option linter.all false
set_option maxRecDepth 100000
namespace Go.Proofs.YtncpaekiidpchaaGreat
open Go.AW
end Go.Proofs.YtncpaekiidpchaaGreat

/- Contracts: whether a proof shows what it says, on both sides. -/
set_option maxRecDepth 100000
namespace Go.Proofs.YtncpaekiidpchaaGreat
open Go.AW
def lastF (L : List (List UInt8)) (p : zaU) (h : zcF) : Bool := match zcu L (znl h) with
 | some i => (((i + 1 : Nat) : Int) == p.cert.dig) && (h.seq == p.cert.seq)
 | none => false
def zed (L : List (List UInt8)) (p : zaU) : Bool := match p.headers.getLast? with
 | none => false
 | some h => zrn L p.headers && lastF L p h
def leafP (p : zaU) : zaI := ⟨p.topic,p.offset,p.rec_⟩
def rootP (p : zaU) : Int := match p.headers with
 | [] => 0
 | h :: _ => h.root
def zmn (L : List (List UInt8)) (G : List zJ) (f : Int) (p : zaU) : Int :=
 if zcP f ≠ 0 then zcP f else if zex p ≠ 0 then zex p else if zed L p = false then 230 else if zro L G f p.cert = false then 231 else
  if zgN L (rootP p) (zam (leafP p)) p.index p.count p.path = false then 232 else 0
theorem chain_all {L : List (List UInt8)} : ∀ {l : List zcF} {q : Option zcF},zlZ L q l = true → ∀ h ∈ l,zfQ h = true
 | [],_,_,h,hm => by simp at hm
 | x :: l,q,hc,h,hm => by
  simp only [zlZ,Bool.and_eq_true] at hc
  rcases List.mem_cons.1 hm with rfl | hm
  ·exact hc.1
  ·exact chain_all hc.2.2 h hm
theorem c_pfChained {σ : List zg} {id m t : Nat} {L : List (List UInt8)} {p : zaU} (hT : zcl σ id m t L) (hL : zkk L) (hp : zfg p) {K : KT} (hK : K (.d (.bool (zed L p))) σ) : zD Tryz.prog zgW [.box id 0,zgQ p] σ K := by
 refine zj zkM.is rfl fun hl _ => zkM.goes ?_
 have fin : ∀ z,zed L p = z → K (.d (.bool z)) σ := fun z h => h ▸ hK
 clear hK
 have hhl : (zeM p.headers).length = p.headers.length := List.length_map ..
 have hph := hp.headers
 simp only [zld,iN,bT,bF,eN,zgQ]
 cases h0 : ((p.headers.length : Int) == 0)
 rotate_left
 ·have : p.headers = [] := List.eq_nil_of_length_eq_zero (by simp only [beq_iff_eq] at h0; omega)
  (repeat' first | refine gq2 (zd hhl h0) ?_ | with_reducible first | exact ⟨⟩ | refine zh ?_ | fail)
  (first | refine zaq hl ?_ | refine zap hl ?_)
  exact fin _ (by simp [zed,this])
 have hne : p.headers ≠ [] := by
  intro e; rw [e] at h0; simp at h0
 obtain ⟨h,hlast⟩ : ∃ h,p.headers.getLast? = some h := ⟨_,List.getLast?_eq_some_getLast hne⟩
 have hcf : zed L p = (zrn L p.headers && lastF L p h) := by rw [zed,hlast]
 have hpos : 0 < p.headers.length := List.length_pos_iff.2 hne
 have hget : p.headers[p.headers.length - 1]? = some h := by rw [← List.getLast?_eq_getElem?]; exact hlast
 have hgh := zae (f := hdrD) hget
 have hw : IntKind.i64.wrap ((p.headers.length : Int) - 1) = ((p.headers.length - 1 : Nat) : Int) := by rw [zX (by omega) (by omega)]; omega
 (repeat' first | refine gq2 (zd hhl h0) ?_ | with_reducible first | exact ⟨⟩ | refine zh ?_ | fail)
 refine c_blChain (hT.app _) hL hph ?_
 cases h1 : zrn L p.headers
 ·(repeat' first | refine gq1 ?_ | with_reducible first | exact ⟨⟩ | refine zh ?_ | fail)
  (first | refine zaq hl ?_ | refine zap hl ?_)
  exact fin _ (by rw [hcf,h1]; rfl)
 have hok := chain_all h1 h (List.mem_of_getLast? hlast)
 have hc0 := zdl.2 hok
 (repeat' first | refine gq2 (zd hhl (zd hw hgh)) ?_ | with_reducible first | exact ⟨⟩ | refine zh ?_ | fail)
 refine c_blBytes (h := h) ?_
 rw [zua hc0,hc0]
 (repeat' first | refine gq2 (show ((0 : Int) != 0) = false from rfl) ?_ | with_reducible first | exact ⟨⟩ | refine zh ?_ | fail)
 refine zmI (hT.app _) ?_
 cases h2 : zcu L (znl h) with
 | none =>
  (repeat' first | refine gq7 ?_ | with_reducible first | exact ⟨⟩ | refine zh ?_ | fail)
  (first | refine zaq hl ?_ | refine zap hl ?_)
  exact fin _ (by rw [hcf,lastF,h2,Bool.and_false])
 | some i =>
  simp only [zks]
  cases h3 : (((i + 1 : Nat) : Int) == p.cert.dig)
  ·(repeat' first | refine gq32 h3 ?_ | with_reducible first | exact ⟨⟩ | refine zh ?_ | fail)
   (first | refine zaq hl ?_ | refine zap hl ?_)
   exact fin _ (by rw [hcf,lastF,h1,h2]; simp only [h3]; rfl)
  ·(repeat' first | refine gq32 h3 ?_ | with_reducible first | exact ⟨⟩ | refine zh ?_ | fail)
   (first | refine zaq hl ?_ | refine zap hl ?_)
   exact fin _ (by rw [hcf,lastF,h1,h2]; simp only [h3]; rfl)
theorem zqK {p : zaU} (hp : zfg p) : zjh (leafP p) := ⟨hp.off,hp.topic,hp.rec_⟩
theorem zms {p : zaI} (hp : zjh p) : (zam p).length ≤ 1073740000 := by
 have ht := hp.topic; have hr := hp.rec_; have ho := hp.off.2
 have l1 := zx (n := p.topic.length) (by omega)
 have l2 := zx (n := p.offset.toNat) (by omega)
 have l3 := zx (n := p.rec_.length) (by omega)
 simp only [zam,zna,List.length_append]
 omega
theorem chained_head {L : List (List UInt8)} {p : zaU} (h : zed L p = true) : ∃ x r,p.headers = x :: r := by
 cases e : p.headers with
 | nil => simp [zed,e] at h
 | cons x r => exact ⟨x,r,rfl⟩
theorem zug {p : zaU} (h : zex p = 0) : p.count ≤ 16 := by
 rw [zex,zqc,zjB] at h
 split at h
 ·rename_i h1; exact absurd h h1
 ·rw [zjB] at h
  split at h
  ·rename_i h1; exact absurd h h1
  ·rw [zjB] at h
   split at h
   ·rename_i h1; exact absurd h h1
   ·rename_i h1
    have h1' : zeG (zct p) = 0 := by simpa using h1
    simp only [zct,zeG] at h1'
    split at h1'
    ·rename_i h2; exact absurd h1' h2
    ·split at h1'
     ·rename_i h3; exact absurd h1' h3
     ·rename_i h3
      exact (inE_0 (by simpa using h3)).2
theorem zdM {σ : List zg} {id m t id2 m2 t2 : Nat} {L : List (List UInt8)} {G : List zJ} {f : Int} {p : zaU} (hT : zcl σ id m t L) (hG : zdV σ id2 m2 t2 G) (hL : zkk L) (hg : G.length ≤ 1073741824) (hp : zfg p)
  {K : KT} (hK : K (.d (.int .i64 (zmn L G f p))) σ) : zD Tryz.prog zcB [.box id 0, .box id2 0, .d (.int .i64 f),zgQ p] σ K := by
 refine zj zlT.is rfl fun hl _ => zlT.goes ?_
 have fin : ∀ z,zmn L G f p = z → K (.d (.int .i64 z)) σ := fun z h => h ▸ hK
 clear hK
 simp only [zmh,iN,bT,bF,eN,zgQ]
 (repeat' first | refine gq1 ?_ | with_reducible first | exact ⟨⟩ | refine zh ?_ | fail)
 refine zlA (hT.app _) hL.nd hL.len hL.each ?_
 (repeat' first | refine gq1 ?_ | with_reducible first | exact ⟨⟩ | refine zh ?_ | fail)
 refine zqg (hG.app _) hg fun g' => ?_
 (repeat' first | refine gq1 ?_ | with_reducible first | exact ⟨⟩ | refine zh ?_ | fail)
 refine zrr ?_
 cases h0 : (zcP f != 0)
 rotate_left
 ·(repeat' first | refine gq2 h0 ?_ | with_reducible first | exact ⟨⟩ | refine zh ?_ | fail)
  (first | refine zaq hl ?_ | refine zap hl ?_)
  exact fin _ (by rw [zmn,if_pos (by simpa using h0)])
 have v0 : zmn L G f p = if zex p ≠ 0 then zex p else if zed L p = false then 230 else if zro L G f p.cert = false then 231 else if zgN L (rootP p) (zam (leafP p)) p.index p.count p.path = false then 232 else 0 := by
  rw [zmn,if_neg (by simpa using h0)]
 (repeat' first | refine gq2 h0 ?_ | with_reducible first | exact ⟨⟩ | refine zh ?_ | fail)
 refine zsd (p := p) hp ?_
 cases h1 : (zex p != 0)
 rotate_left
 ·(repeat' first | refine gq2 h1 ?_ | with_reducible first | exact ⟨⟩ | refine zh ?_ | fail)
  (first | refine zaq hl ?_ | refine zap hl ?_)
  exact fin _ (by rw [v0,if_pos (by simpa using h1)])
 have h1' : zex p = 0 := by simpa using h1
 rw [if_neg (by simpa using h1)] at v0
 (repeat' first | refine gq2 h1 ?_ | with_reducible first | exact ⟨⟩ | refine zh ?_ | fail)
 refine c_pfChained (p := p) (hT.app _) hL hp ?_
 cases h2 : zed L p
 ·(repeat' first | refine gq1 ?_ | with_reducible first | exact ⟨⟩ | refine zh ?_ | fail)
  (first | refine zaq hl ?_ | refine zap hl ?_)
  exact fin _ (by rw [v0,if_pos h2])
 rw [if_neg (by simp [h2])] at v0
 (repeat' first | refine gq1 ?_ | with_reducible first | exact ⟨⟩ | refine zh ?_ | fail)
 refine c_ptValid (c := p.cert) (hT.app _) (hG.app _) hL hg hp.signs ?_
 cases h3 : zro L G f p.cert
 ·(repeat' first | refine gq1 ?_ | with_reducible first | exact ⟨⟩ | refine zh ?_ | fail)
  (first | refine zaq hl ?_ | refine zap hl ?_)
  exact fin _ (by rw [v0,if_pos h3])
 rw [if_neg (by simp [h3])] at v0
 obtain ⟨x,r,hxr⟩ := chained_head h2
 have hgx : (zeM p.headers)[0]? = some (hdrD x) := by rw [hxr]; rfl
 have hrt : rootP p = x.root := by rw [rootP,hxr]
 (repeat' first | refine gq1 ?_ | with_reducible first | exact ⟨⟩ | refine zh ?_ | fail)
 refine zth (p := leafP p) (zqK hp) ?_
 (repeat' first | refine gq2 hgx ?_ | with_reducible first | exact ⟨⟩ | refine zh ?_ | fail)
 refine c_mkVerify (by have := zug h1'; omega) (hT.app _) hL.len (zms (zqK hp)) (fun y hy => (hp.paths y hy).2) ?_
 rw [hrt] at v0
 cases h4 : zgN L x.root (zam (leafP p)) p.index p.count p.path
 ·(repeat' first | refine gq1 ?_ | with_reducible first | exact ⟨⟩ | refine zh ?_ | fail)
  (first | refine zaq hl ?_ | refine zap hl ?_)
  exact fin _ (by rw [v0,if_pos h4])
 ·(repeat' first | refine gq1 ?_ | with_reducible first | exact ⟨⟩ | refine zh ?_ | fail)
  (first | refine zaq hl ?_ | refine zap hl ?_)
  exact fin _ (by rw [v0,if_neg (by simp [h4])])
end Go.Proofs.YtncpaekiidpchaaGreat

/- Maps keyed by integers: what is found after a put. -/
namespace Go.AW
abbrev ents (l : List (Int × AV)) : List (AV × AV) := l.map fun e => (.d (.int .i64 e.1),e.2)
def zfq (s : Int) : List (Int × AV) → Nat → Option (Nat × AV)
 | [],_ => none
 | e :: r,i => if s = e.1 then some (i,e.2) else zfq s r (i + 1)
theorem zoK (s : Int) : ∀ (l : List (Int × AV)) (i : Nat),zki .int (.d (.int .i64 s)) (ents l) i = some (zfq s l i)
 | [],_ => rfl
 | e :: r,i => by
  simp only [ents,List.map_cons,zki,zfp,if_true,zfq]
  by_cases h : s = e.1
  ·simp [h]
  ·have : (s == e.1) = false := by simpa using h
   simp only [this,if_neg h]
   exact zoK s r (i + 1)
theorem zpo {s t : Int} {x : AV} : ∀ {l : List (Int × AV)} {i : Nat},(zfq t l i = none ∨ s ≠ t) → (zfq s (l ++ [(t,x)]) i).map (·.2) = if s = t then some x else (zfq s l i).map (·.2)
 | [],i,h => by
  by_cases e : s = t <;> simp [zfq,e]
 | e :: r,i,h => by
  simp only [List.cons_append,zfq]
  by_cases h1 : s = e.1
  ·rw [if_pos h1,if_pos h1]
   by_cases e2 : s = t
   ·rcases h with h | h
    ·simp only [zfq] at h
     rw [if_pos (by rw [← e2,h1])] at h
     cases h
    ·exact absurd e2 h
   ·rw [if_neg e2]
  ·rw [if_neg h1,if_neg h1]
   refine zpo ?_
   rcases h with h | h
   ·left
    simp only [zfq] at h
    split at h
    ·cases h
    ·exact h
   ·exact .inr h
theorem findI_ge {s : Int} : ∀ {l : List (Int × AV)} {i j : Nat} {v : AV},zfq s l i = some (j,v) → i ≤ j
 | [],_,_,_,h => by simp [zfq] at h
 | e :: r,i,j,v,h => by
  simp only [zfq] at h
  split at h
  ·simp at h; omega
  ·have := findI_ge h; omega
theorem findI_set {s t : Int} {x v : AV} : ∀ {l : List (Int × AV)} {i j : Nat},zfq t l i = some (i + j,v) → (zfq s (l.set j (t,x)) i).map (·.2) = if s = t then some x else (zfq s l i).map (·.2)
 | [],i,j,h => by simp [zfq] at h
 | e :: r,i, 0,h => by
  simp only [zfq] at h
  split at h
  ·rename_i h1
   simp only [List.set_cons_zero,zfq]
   by_cases e2 : s = t
   ·simp [e2]
   ·rw [if_neg e2,if_neg e2,if_neg (by rw [← h1]; exact e2)]
  ·have := findI_ge h; omega
 | e :: r,i,j + 1,h => by
  simp only [zfq] at h
  split at h
  ·simp at h
  ·rename_i h1
   simp only [List.set_cons_succ,zfq]
   have ih := findI_set (s := s) (x := x) (l := r) (i := i + 1) (j := j) (by rw [h]; congr 2; omega)
   by_cases h2 : s = e.1
   ·rw [if_pos h2,if_pos h2,if_neg (by rw [h2]; exact fun h => h1 h.symm)]
   ·rw [if_neg h2,if_neg h2]
    exact ih
def zpX (l : List (Int × AV)) (f : Int → Option AV) : Prop := ∀ s,(zfq s l 0).map (·.2) = f s
theorem zpX.nil : zpX [] fun _ => none := fun _ => rfl
theorem zpX.none {l : List (Int × AV)} {f : Int → Option AV} (h : zpX l f) {s : Int} (hs : f s = .none) : zki .int (.d (.int .i64 s)) (ents l) 0 = some .none := by
 rw [zoK]
 have := h s
 rw [hs] at this
 cases e : zfq s l 0 with
 | none => rfl
 | some p => rw [e] at this; simp at this
theorem zpX.some {l : List (Int × AV)} {f : Int → Option AV} (h : zpX l f) {s : Int} {v : AV} (hs : f s = .some v) : ∃ i,zki .int (.d (.int .i64 s)) (ents l) 0 = .some (.some (i,v)) ∧ zfq s l 0 = .some (i,v) := by
 rw [zoK]
 have := h s
 rw [hs] at this
 cases e : zfq s l 0 with
 | none => rw [e] at this; simp at this
 | some p =>
  rw [e] at this
  obtain ⟨i,w⟩ := p
  simp at this
  subst this
  exact ⟨i,rfl,rfl⟩
theorem zpX.add {l : List (Int × AV)} {f : Int → Option AV} (h : zpX l f) {t : Int} {x : AV} (ht : f t = .none) : zpX (l ++ [(t,x)]) fun s => if s = t then .some x else f s := by
 intro s
 rw [zpo,h s]
 left
 have := h t
 rw [ht] at this
 cases e : zfq t l 0 with
 | none => rfl
 | some p => rw [e] at this; simp at this
theorem zpX.put {l : List (Int × AV)} {f : Int → Option AV} (h : zpX l f) {t : Int} {x v : AV} {i : Nat} (ht : zfq t l 0 = .some (i,v)) : zpX (l.set i (t,x)) fun s => if s = t then .some x else f s := by
 intro s
 rw [findI_set (v := v) (by rw [Nat.zero_add]; exact ht),h s]
end Go.AW

/- Readers: a reader's bytes and its error; what is taken from them. 'cut': an error drops the bytes. No program in sight. -/
namespace Go.AW
structure Rd where
 b : List UInt8
 e : Int
def Rd.fail (cut : Bool) (s : Rd) (x : Int) : Rd := if s.e = 0 ∧ x ≠ 0 then ⟨if cut then [] else s.b,x⟩ else s
def numP (cut : Bool) (most : Nat) (s : Rd) : Nat × Rd :=
 if s.e = 0 then (match numR most 0 0 s.b with | .ok (n,r) => (n,⟨r, 0⟩) | .error x => (0,s.fail cut x)) else (0,s)
def takeP (cut : Bool) (n : Nat) (s : Rd) : List UInt8 × Rd :=
 if s.e = 0 then (if n > s.b.length then ([],s.fail cut 10) else (s.b.take n,⟨s.b.drop n, 0⟩)) else ([],s)
def zmb (cut : Bool) (most : Nat) (s : Rd) : List UInt8 × Rd := takeP cut (numP cut most s).1 (numP cut most s).2
def ztU (cut : Bool) : Nat → Rd → List (List UInt8) × Rd
 | 0,s => ([],s)
 | k + 1,s => ((ztU cut k s).1 ++ [(zmb cut 64 (ztU cut k s).2).1],(zmb cut 64 (ztU cut k s).2).2)
def zqV (cut : Bool) (k : Nat) (s : Rd) : TOp × Rd :=
 let t := zmb cut 64 s
 if k = 0 then (noOp,s)
 else if k = 2 then (let n := numP cut 4 t.2; let r := ztU cut n.1 n.2; (⟨k,t.1, [], 0,r.1⟩,r.2))
 else if k = 3 then (let g := zmb cut 64 t.2; let f := numP cut 9007199254740992 g.2; (⟨k,t.1,g.1,f.1, []⟩,f.2))
 else if k = 4 then (let f := numP cut 9007199254740992 t.2; (⟨k,t.1, [],f.1, []⟩,f.2))
 else (⟨k,t.1, [], 0, []⟩,t.2)
def Rd.like (s t : Rd) : Prop := s.e = t.e ∧ (s.e = 0 → s.b = t.b)
theorem Rd.like.fail {s t : Rd} {c d : Bool} {x : Int} (h : s.like t) : (s.fail c x).like (t.fail d x) := by
 obtain ⟨h1,h2⟩ := h
 unfold Rd.fail Rd.like
 grind
theorem Rd.like.num {s t : Rd} {c d : Bool} {m : Nat} (h : s.like t) : (numP c m s).1 = (numP d m t).1 ∧ (numP c m s).2.like (numP d m t).2 := by
 have hf : ∀ x,(s.fail c x).like (t.fail d x) := fun x => h.fail
 obtain ⟨h1,h2⟩ := h
 unfold numP
 by_cases h0 : s.e = 0
 ·rw [if_pos h0,if_pos (show t.e = 0 from h1 ▸ h0),h2 h0]
  cases numR m 0 0 t.b with
  | ok x => exact ⟨rfl,rfl,fun _ => rfl⟩
  | error x => exact ⟨rfl,hf x⟩
 ·rw [if_neg h0,if_neg (h1 ▸ h0)]
  exact ⟨rfl,h1,h2⟩
theorem Rd.like.take {s t : Rd} {c d : Bool} {m : Nat} (h : s.like t) : (takeP c m s).1 = (takeP d m t).1 ∧ (takeP c m s).2.like (takeP d m t).2 := by
 have hf : ∀ x,(s.fail c x).like (t.fail d x) := fun x => h.fail
 obtain ⟨h1,h2⟩ := h
 unfold takeP
 by_cases h0 : s.e = 0
 ·rw [if_pos h0,if_pos (show t.e = 0 from h1 ▸ h0),h2 h0]
  split
  ·exact ⟨rfl,hf 10⟩
  ·exact ⟨rfl,rfl,fun _ => rfl⟩
 ·rw [if_neg h0,if_neg (h1 ▸ h0)]
  exact ⟨rfl,h1,h2⟩
theorem Rd.like.bytes {s t : Rd} {c d : Bool} {m : Nat} (h : s.like t) : (zmb c m s).1 = (zmb d m t).1 ∧ (zmb c m s).2.like (zmb d m t).2 := by
 have a := h.num (c := c) (d := d) (m := m)
 have := a.2.take (c := c) (d := d) (m := (numP c m s).1)
 unfold zmb
 rw [← a.1]
 exact this
theorem Rd.like.recs {s t : Rd} {c d : Bool} (h : s.like t) : ∀ k,(ztU c k s).1 = (ztU d k t).1 ∧ (ztU c k s).2.like (ztU d k t).2
 | 0 => ⟨rfl,h⟩
 | k + 1 => by
  obtain ⟨a,b⟩ := Rd.like.recs h (c := c) (d := d) k
  have e := b.bytes (c := c) (d := d) (m := 64)
  exact ⟨by simp only [ztU,a,e.1],e.2⟩
theorem Rd.like.fields {s t : Rd} {c d : Bool} (h : s.like t) (k : Nat) : (zqV c k s).1 = (zqV d k t).1 ∧ (zqV c k s).2.like (zqV d k t).2 := by
 obtain ⟨t1,t2⟩ := h.bytes (c := c) (d := d) (m := 64)
 obtain ⟨n1,n2⟩ := t2.num (c := c) (d := d) (m := 4)
 obtain ⟨r1,r2⟩ := n2.recs (c := c) (d := d) (numP c 4 (zmb c 64 s).2).1
 obtain ⟨g1,g2⟩ := t2.bytes (c := c) (d := d) (m := 64)
 obtain ⟨f1,f2⟩ := g2.num (c := c) (d := d) (m := 9007199254740992)
 obtain ⟨e1,e2⟩ := t2.num (c := c) (d := d) (m := 9007199254740992)
 unfold zqV
 simp only
 split
 ·exact ⟨rfl,h⟩
 ·split
  ·rw [← n1, ← r1, ← t1]; exact ⟨rfl,r2⟩
  ·split
   ·rw [← t1, ← g1, ← f1]; exact ⟨rfl,f2⟩
   ·split
    ·rw [← t1, ← e1]; exact ⟨rfl,e2⟩
    ·rw [← t1]; exact ⟨rfl,t2⟩
end Go.AW
namespace Go.AW
end Go.AW
namespace Go.AW
end Go.AW
namespace Go.AW
end Go.AW
namespace Go.AW
end Go.AW
namespace Go.AW
theorem zrl : ∀ (f : Nat) (s : List UInt8) (n : Nat),zcV f s = some n → s.length ≤ 4 * n
 | 0,_,_,h => by simp [zcV] at h
 | f + 1,s,n,h => by
  simp only [zcV] at h
  split at h
  ·rename_i h0; cases h; simp [h0]
  ·split at h
   ·cases h
   ·simp only [Option.map_eq_some_iff] at h
    obtain ⟨m,hm,rfl⟩ := h
    have := zrl f _ m hm
    have h4 := (ziQ s).2.1
    simp only [List.length_drop] at *
    omega
theorem name_len {s : List UInt8} (h : zdA s = true) : s.length ≤ 64 := by
 simp only [zdA,zfw,decide_eq_true_eq] at h
 cases e : zcV (s.length + 1) s with
 | none => simp [e] at h
 | some n =>
  have := zrl _ s n e
  simp only [e] at h
  by_cases h16 : n > 16
  ·simp [h16] at h
  ·omega
end Go.AW

/- Contracts: certificates that are kept. -/
set_option maxRecDepth 100000
namespace Go.Proofs.YtncpaekiidpchaaGreat
open Go.AW
theorem c_clSign {σ : List zg} {l : List zJ} (hn : l.length ≤ 1073741824) {K : KT} (hK : K (.d (.slice (zaz l))) σ) : zD Tryz.prog zbB [.d (.slice (zaz l))] σ K := by
 refine zj zcD.is rfl fun hl _ => zcD.goes ?_
 have hlen : (zaz l).length = l.length := List.length_map ..
 have h2 : ∀ e ∈ zaz l,e.length = 2 := zif (f := zid) (fun _ => rfl) l
 simp only [zcG,iN,bT,bF,eN,zan,zdk]
 obtain ⟨es,hes⟩ : ∃ es,zaz l = es := ⟨_,rfl⟩
 rw [hes] at hlen h2 hK ⊢
 cases es with
 | nil =>
  refine ⟨?_, ?_⟩
  ·(repeat' first | refine gq1 ?_ | with_reducible first | exact ⟨⟩ | refine zh ?_ | fail)
   (first | refine zaq hl ?_ | refine zap hl ?_)
   exact hK
  ·(repeat' first | refine gq1 ?_ | with_reducible first | exact ⟨⟩ | refine zh ?_ | fail)
   (first | refine zaq hl ?_ | refine zap hl ?_)
   exact hK
 | cons e es =>
  simp only [zW,zA,zB,zS,rep,zt,zdG,zab,zw,zdy]
  refine ⟨h2,by simp,by rw [hlen]; simp; omega, ?_⟩
  (first | refine zaq hl ?_ | refine zap hl ?_)
  exact hK
abbrev hE (l : List (Int × TPrep)) : List (AV × AV) := ents (l.map fun e => (e.1,prepA e.2))
structure HeldAt (σ : List zg) (h m : Nat) (l : List (Int × TPrep)) : Prop where
 box : σ[h]? = some (.box [.map m])
 map : σ[m]? = some (.map (hE l))
theorem HeldAt.app {σ : List zg} {h m : Nat} {l : List (Int × TPrep)} (H : HeldAt σ h m l) (τ : List zg) : HeldAt (σ ++ τ) h m l := ⟨zf H.box,zf H.map⟩
end Go.Proofs.YtncpaekiidpchaaGreat
