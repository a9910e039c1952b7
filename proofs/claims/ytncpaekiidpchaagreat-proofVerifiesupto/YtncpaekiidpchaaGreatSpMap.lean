/- Maps keyed by integers: what is found after a put. -/
import Derived.Test.YtncpaekiidpchaaGreatAwEnd
import Derived.Test.YtncpaekiidpchaaGreatSpUtf
import Derived.Test.YtncpaekiidpchaaGreatAu3
import Derived.Test.YtncpaekiidpchaaGreatOpC
import Derived.Test.YtncpaekiidpchaaGreatSpMake
import Derived.Test.YtncpaekiidpchaaGreatPf1
set_option linter.all false
namespace Go.AW
abbrev ents (l : List (Int × AV)) : List (AV × AV) := l.map fun e => (.d (.int .i64 e.1),e.2)
def zfH (s : Int) : List (Int × AV) → Nat → Option (Nat × AV)
 | [],_ => none
 | e :: r,i => if s = e.1 then some (i,e.2) else zfH s r (i + 1)
theorem zpr (s : Int) : ∀ (l : List (Int × AV)) (i : Nat),zkR .int (.d (.int .i64 s)) (ents l) i = some (zfH s l i)
 | [],_ => rfl
 | e :: r,i => by
  simp only [ents,List.map_cons,zkR,zfG,if_true,zfH]
  by_cases h : s = e.1
  ·simp [h]
  ·have : (s == e.1) = false := by simpa using h
   simp only [this,if_neg h]
   exact zpr s r (i + 1)
theorem zpU {s t : Int} {x : AV} : ∀ {l : List (Int × AV)} {i : Nat},(zfH t l i = none ∨ s ≠ t) → (zfH s (l ++ [(t,x)]) i).map (·.2) = if s = t then some x else (zfH s l i).map (·.2)
 | [],i,h => by
  by_cases e : s = t <;> simp [zfH,e]
 | e :: r,i,h => by
  simp only [List.cons_append,zfH]
  by_cases h1 : s = e.1
  ·rw [if_pos h1,if_pos h1]
   by_cases e2 : s = t
   ·rcases h with h | h
    ·simp only [zfH] at h
     rw [if_pos (by rw [← e2,h1])] at h
     cases h
    ·exact absurd e2 h
   ·rw [if_neg e2]
  ·rw [if_neg h1,if_neg h1]
   refine zpU ?_
   rcases h with h | h
   ·left
    simp only [zfH] at h
    split at h
    ·cases h
    ·exact h
   ·exact .inr h
theorem findI_ge {s : Int} : ∀ {l : List (Int × AV)} {i j : Nat} {v : AV},zfH s l i = some (j,v) → i ≤ j
 | [],_,_,_,h => by simp [zfH] at h
 | e :: r,i,j,v,h => by
  simp only [zfH] at h
  split at h
  ·simp at h; omega
  ·have := findI_ge h; omega
theorem findI_set {s t : Int} {x v : AV} : ∀ {l : List (Int × AV)} {i j : Nat},zfH t l i = some (i + j,v) → (zfH s (l.set j (t,x)) i).map (·.2) = if s = t then some x else (zfH s l i).map (·.2)
 | [],i,j,h => by simp [zfH] at h
 | e :: r,i, 0,h => by
  simp only [zfH] at h
  split at h
  ·rename_i h1
   simp only [List.set_cons_zero,zfH]
   by_cases e2 : s = t
   ·simp [e2]
   ·rw [if_neg e2,if_neg e2,if_neg (by rw [← h1]; exact e2)]
  ·have := findI_ge h; omega
 | e :: r,i,j + 1,h => by
  simp only [zfH] at h
  split at h
  ·simp at h
  ·rename_i h1
   simp only [List.set_cons_succ,zfH]
   have ih := findI_set (s := s) (x := x) (l := r) (i := i + 1) (j := j) (by rw [h]; congr 2; omega)
   by_cases h2 : s = e.1
   ·rw [if_pos h2,if_pos h2,if_neg (by rw [h2]; exact fun h => h1 h.symm)]
   ·rw [if_neg h2,if_neg h2]
    exact ih
def zqN (l : List (Int × AV)) (f : Int → Option AV) : Prop := ∀ s,(zfH s l 0).map (·.2) = f s
theorem zqN.nil : zqN [] fun _ => none := fun _ => rfl
theorem zqN.none {l : List (Int × AV)} {f : Int → Option AV} (h : zqN l f) {s : Int} (hs : f s = .none) : zkR .int (.d (.int .i64 s)) (ents l) 0 = some .none := by
 rw [zpr]
 have := h s
 rw [hs] at this
 cases e : zfH s l 0 with
 | none => rfl
 | some p => rw [e] at this; simp at this
theorem zqN.some {l : List (Int × AV)} {f : Int → Option AV} (h : zqN l f) {s : Int} {v : AV} (hs : f s = .some v) : ∃ i,zkR .int (.d (.int .i64 s)) (ents l) 0 = .some (.some (i,v)) ∧ zfH s l 0 = .some (i,v) := by
 rw [zpr]
 have := h s
 rw [hs] at this
 cases e : zfH s l 0 with
 | none => rw [e] at this; simp at this
 | some p =>
  rw [e] at this
  obtain ⟨i,w⟩ := p
  simp at this
  subst this
  exact ⟨i,rfl,rfl⟩
theorem zqN.add {l : List (Int × AV)} {f : Int → Option AV} (h : zqN l f) {t : Int} {x : AV} (ht : f t = .none) : zqN (l ++ [(t,x)]) fun s => if s = t then .some x else f s := by
 intro s
 rw [zpU,h s]
 left
 have := h t
 rw [ht] at this
 cases e : zfH t l 0 with
 | none => rfl
 | some p => rw [e] at this; simp at this
theorem zqN.put {l : List (Int × AV)} {f : Int → Option AV} (h : zqN l f) {t : Int} {x v : AV} {i : Nat} (ht : zfH t l 0 = .some (i,v)) : zqN (l.set i (t,x)) fun s => if s = t then .some x else f s := by
 intro s
 rw [findI_set (v := v) (by rw [Nat.zero_add]; exact ht),h s]
end Go.AW

/- Readers: a reader's bytes and its error; what is taken from them. 'cut': an error drops the bytes. No program in sight. -/
namespace Go.AW
structure Rd where
 b : List UInt8
 e : Int
def Rd.fail (cut : Bool) (s : Rd) (x : Int) : Rd := if s.e = 0 ∧ x ≠ 0 then ⟨if cut then [] else s.b,x⟩ else s
def numP (cut : Bool) (most : Nat) (s : Rd) : Nat × Rd :=
 if s.e = 0 then (match numR most 0 0 s.b with | .ok (n,r) => (n,⟨r, 0⟩) | .error x => (0,s.fail cut x)) else (0,s)
def takeP (cut : Bool) (n : Nat) (s : Rd) : List UInt8 × Rd :=
 if s.e = 0 then (if n > s.b.length then ([],s.fail cut 10) else (s.b.take n,⟨s.b.drop n, 0⟩)) else ([],s)
def zmQ (cut : Bool) (most : Nat) (s : Rd) : List UInt8 × Rd := takeP cut (numP cut most s).1 (numP cut most s).2
def zvj (cut : Bool) : Nat → Rd → List (List UInt8) × Rd
 | 0,s => ([],s)
 | k + 1,s => ((zvj cut k s).1 ++ [(zmQ cut 64 (zvj cut k s).2).1],(zmQ cut 64 (zvj cut k s).2).2)
def zrP (cut : Bool) (k : Nat) (s : Rd) : TOp × Rd :=
 let t := zmQ cut 64 s
 if k = 0 then (noOp,s)
 else if k = 2 then (let n := numP cut 4 t.2; let r := zvj cut n.1 n.2; (⟨k,t.1, [], 0,r.1⟩,r.2))
 else if k = 3 then (let g := zmQ cut 64 t.2; let f := numP cut 9007199254740992 g.2; (⟨k,t.1,g.1,f.1, []⟩,f.2))
 else if k = 4 then (let f := numP cut 9007199254740992 t.2; (⟨k,t.1, [],f.1, []⟩,f.2))
 else (⟨k,t.1, [], 0, []⟩,t.2)
def Rd.like (s t : Rd) : Prop := s.e = t.e ∧ (s.e = 0 → s.b = t.b)
theorem Rd.like.fail {s t : Rd} {c d : Bool} {x : Int} (h : s.like t) : (s.fail c x).like (t.fail d x) := by
 obtain ⟨h1,h2⟩ := h
 unfold Rd.fail Rd.like
 grind
theorem Rd.like.num {s t : Rd} {c d : Bool} {m : Nat} (h : s.like t) : (numP c m s).1 = (numP d m t).1 ∧ (numP c m s).2.like (numP d m t).2 := by
 have hf : ∀ x,(s.fail c x).like (t.fail d x) := fun x => h.fail
 obtain ⟨h1,h2⟩ := h
 unfold numP
 by_cases h0 : s.e = 0
 ·rw [if_pos h0,if_pos (show t.e = 0 from h1 ▸ h0),h2 h0]
  cases numR m 0 0 t.b with
  | ok x => exact ⟨rfl,rfl,fun _ => rfl⟩
  | error x => exact ⟨rfl,hf x⟩
 ·rw [if_neg h0,if_neg (h1 ▸ h0)]
  exact ⟨rfl,h1,h2⟩
theorem Rd.like.take {s t : Rd} {c d : Bool} {m : Nat} (h : s.like t) : (takeP c m s).1 = (takeP d m t).1 ∧ (takeP c m s).2.like (takeP d m t).2 := by
 have hf : ∀ x,(s.fail c x).like (t.fail d x) := fun x => h.fail
 obtain ⟨h1,h2⟩ := h
 unfold takeP
 by_cases h0 : s.e = 0
 ·rw [if_pos h0,if_pos (show t.e = 0 from h1 ▸ h0),h2 h0]
  split
  ·exact ⟨rfl,hf 10⟩
  ·exact ⟨rfl,rfl,fun _ => rfl⟩
 ·rw [if_neg h0,if_neg (h1 ▸ h0)]
  exact ⟨rfl,h1,h2⟩
theorem Rd.like.bytes {s t : Rd} {c d : Bool} {m : Nat} (h : s.like t) : (zmQ c m s).1 = (zmQ d m t).1 ∧ (zmQ c m s).2.like (zmQ d m t).2 := by
 have a := h.num (c := c) (d := d) (m := m)
 have := a.2.take (c := c) (d := d) (m := (numP c m s).1)
 unfold zmQ
 rw [← a.1]
 exact this
theorem Rd.like.recs {s t : Rd} {c d : Bool} (h : s.like t) : ∀ k,(zvj c k s).1 = (zvj d k t).1 ∧ (zvj c k s).2.like (zvj d k t).2
 | 0 => ⟨rfl,h⟩
 | k + 1 => by
  obtain ⟨a,b⟩ := Rd.like.recs h (c := c) (d := d) k
  have e := b.bytes (c := c) (d := d) (m := 64)
  exact ⟨by simp only [zvj,a,e.1],e.2⟩
theorem Rd.like.fields {s t : Rd} {c d : Bool} (h : s.like t) (k : Nat) : (zrP c k s).1 = (zrP d k t).1 ∧ (zrP c k s).2.like (zrP d k t).2 := by
 obtain ⟨t1,t2⟩ := h.bytes (c := c) (d := d) (m := 64)
 obtain ⟨n1,n2⟩ := t2.num (c := c) (d := d) (m := 4)
 obtain ⟨r1,r2⟩ := n2.recs (c := c) (d := d) (numP c 4 (zmQ c 64 s).2).1
 obtain ⟨g1,g2⟩ := t2.bytes (c := c) (d := d) (m := 64)
 obtain ⟨f1,f2⟩ := g2.num (c := c) (d := d) (m := 9007199254740992)
 obtain ⟨e1,e2⟩ := t2.num (c := c) (d := d) (m := 9007199254740992)
 unfold zrP
 simp only
 split
 ·exact ⟨rfl,h⟩
 ·split
  ·rw [← n1, ← r1, ← t1]; exact ⟨rfl,r2⟩
  ·split
   ·rw [← t1, ← g1, ← f1]; exact ⟨rfl,f2⟩
   ·split
    ·rw [← t1, ← e1]; exact ⟨rfl,e2⟩
    ·rw [← t1]; exact ⟨rfl,t2⟩
end Go.AW
namespace Go.AW
end Go.AW
namespace Go.AW
end Go.AW
namespace Go.AW
end Go.AW
namespace Go.AW
end Go.AW
namespace Go.AW
theorem zsl : ∀ (f : Nat) (s : List UInt8) (n : Nat),zdc f s = some n → s.length ≤ 4 * n
 | 0,_,_,h => by simp [zdc] at h
 | f + 1,s,n,h => by
  simp only [zdc] at h
  split at h
  ·rename_i h0; cases h; simp [h0]
  ·split at h
   ·cases h
   ·simp only [Option.map_eq_some_iff] at h
    obtain ⟨m,hm,rfl⟩ := h
    have := zsl f _ m hm
    have h4 := (zjs s).2.1
    simp only [List.length_drop] at *
    omega
theorem name_len {s : List UInt8} (h : zeY s = true) : s.length ≤ 64 := by
 simp only [zeY,zfQ,decide_eq_true_eq] at h
 cases e : zdc (s.length + 1) s with
 | none => simp [e] at h
 | some n =>
  have := zsl _ s n e
  simp only [e] at h
  by_cases h16 : n > 16
  ·simp [h16] at h
  ·omega
end Go.AW

/- Contracts: certificates that are kept. -/
set_option maxRecDepth 100000
namespace Go.Proofs.YtncpaekiidpchaaGreat
open Go.AW
theorem c_clSign {σ : List zh} {l : List zS} (hn : l.length ≤ 1073741824) {K : KT} (hK : K (.d (.slice (zax l))) σ) : zy Tryz.prog zbF [.d (.slice (zax l))] σ K := by
 refine zi zcH.is rfl fun hl _ => zcH.goes ?_
 have hlen : (zax l).length = l.length := List.length_map ..
 have h2 : ∀ e ∈ zax l,e.length = 2 := zgo (f := zgn) (fun _ => rfl) l
 simp only [zcJ,iN,bT,bF,eN,zam,zcW]
 obtain ⟨es,hes⟩ : ∃ es,zax l = es := ⟨_,rfl⟩
 rw [hes] at hlen h2 hK ⊢
 cases es with
 | nil =>
  refine ⟨?_, ?_⟩
  ·(repeat' first | refine gq1 ?_ | with_reducible first | exact ⟨⟩ | refine zg ?_ | fail)
   (first | refine zX hl ?_ | refine zW hl ?_)
   exact hK
  ·(repeat' first | refine gq1 ?_ | with_reducible first | exact ⟨⟩ | refine zg ?_ | fail)
   (first | refine zX hl ?_ | refine zW hl ?_)
   exact hK
 | cons e es =>
  simp only [zV,zA,zC,zR,rep,zr,zdD,zad,zw,zdv]
  refine ⟨h2,by simp,by rw [hlen]; simp; omega, ?_⟩
  (first | refine zX hl ?_ | refine zW hl ?_)
  exact hK
abbrev hE (l : List (Int × TPrep)) : List (AV × AV) := ents (l.map fun e => (e.1,prepA e.2))
structure HeldAt (σ : List zh) (h m : Nat) (l : List (Int × TPrep)) : Prop where
 box : σ[h]? = some (.box [.map m])
 map : σ[m]? = some (.map (hE l))
theorem HeldAt.app {σ : List zh} {h m : Nat} {l : List (Int × TPrep)} (H : HeldAt σ h m l) (τ : List zh) : HeldAt (σ ++ τ) h m l := ⟨zf H.box,zf H.map⟩
end Go.Proofs.YtncpaekiidpchaaGreat

/- Contracts: the program's proof of a record. -/
set_option maxRecDepth 100000
namespace Go.Proofs.YtncpaekiidpchaaGreat
open Go.AW
theorem c_clRec {σ : List zh} {l : List UInt8} (hn : l.length ≤ 1073741824) {K : KT} (hK : K (.d (.slice (bcs l))) σ) : zy Tryz.prog zbP [.d (.slice (bcs l))] σ K := by
 refine zi zdb.is rfl fun hl _ => zdb.goes ?_
 have hlen := zea l
 have h2 : ∀ e ∈ bcs l,e.length = 1 := zgv
 simp only [zde,iN,bT,bF,eN,zam,zcW]
 obtain ⟨es,hes⟩ : ∃ es,bcs l = es := ⟨_,rfl⟩
 rw [hes] at hlen h2 hK ⊢
 cases es with
 | nil =>
  refine ⟨?_, ?_⟩
  ·(repeat' first | refine gq1 ?_ | with_reducible first | exact ⟨⟩ | refine zg ?_ | fail)
   (first | refine zX hl ?_ | refine zW hl ?_)
   exact hK
  ·(repeat' first | refine gq1 ?_ | with_reducible first | exact ⟨⟩ | refine zg ?_ | fail)
   (first | refine zX hl ?_ | refine zW hl ?_)
   exact hK
 | cons e es =>
  simp only [zV,zA,zC,zR,rep,zr,zdD,zad,zw,zdv]
  refine ⟨h2,by simp,by rw [hlen]; simp; omega, ?_⟩
  (first | refine zX hl ?_ | refine zW hl ?_)
  exact hK
abbrev nilPf : zh := .box [.d (.str []), .d (.int .i64 0), .exact [], .exact [], .d (.int .i64 0), .d (.int .i64 0), .exact [], .d (.int .i64 0), .d (.int .i64 0), .exact []]
theorem gq45 {P Q : Prop} (h : Q) (e : P = Q := by simp -dsimp only [↓zen, ↓zaw, ↓zba, ↓zeo, ↓zej, ↓zeh, ↓zek, ↓zei, ↓zbf, ↓zbb, ↓zbg, ↓zbc, ↓zel, ↓zaZ, ↓zbh, ↓zbd, ↓zbi, ↓zbe, ↓zeg, ↓zem, ↓zaY, ↓zbj, ↓zee, ↓zed, ↓zef,iN,bT,bF,eN, ↓zcI, ↓unC, ↓zV, ↓zJ, ↓zK, ↓zN, ↓zaa, ↓zas, ↓zbH, ↓zah, ↓zaV, ↓zQ, ↓zp, ↓zo, ↓zbr, ↓zk, ↓zag, ↓zG, ↓zaB, ↓zaF, ↓ze, ↓zE, ↓zr, ↓zw, ↓zam, ↓zcs, ↓zcM, ↓zak, ↓zat, ↓zaE, ↓zaJ, ↓zaP, ↓zu, ↓zai, ↓zL, ↓zA, ↓zab,zcT,zaU,zaT,unA,zcW,bnd,zds,zae,zR,zdv,dm,dm1,zC,zaj,zdH,zdG,zM,Q0,Q1,Q2,Q3,Q4,Q5,zT,zq,zx,zO,zI,Q6,Q7,Q8,Q9,Q10,Q11,Q12,Q13,Q14,Nat.reduceAdd,Q15,Int.reduceToNat,Q16,Q17,Q18,Q19,Q20,reduceIte,Q21,Q22,zF,rep,zY,zdD,toD,zad,Q23,Q24,Q25,Q26,Q27,Q28,Nat.reduceLeDiff,Q29,Nat.reduceSub,Q30,Q31,Q32,sc,Q33,Q34,Q35,Q36,Q37,Q26,Q38,Q39,zfZ,zfW,zfT,zga,zbR,zfX,zfU,zfY,zfV,zbQ,zbS,zgb,zgc,Bool.not_true,Bool.not_false,List.length_map,Option.getD_none,Option.getD_some,Option.isSome_none,Option.isSome_some]; rfl) : P := e.mpr h
theorem c_pfMake {σ : List zh} {id m t : Nat} {L : List (List UInt8)} {l : List zdT} {c : zfk} {tp : List UInt8} {o : Int} (hT : zcq σ id m t L) (hI : zkB L) (hl0 : l.length ≤ 1073741824) (hb : ∀ b ∈ l,zkV b) (hc : c.signs.length ≤ 1073741824) {K : KT}
  (hK : K (.tup [zeO (zdz L l c tp o).2.1, .d (.int .i64 (zdz L l c tp o).1)]) (putTab σ id m t (zdz L l c tp o).2.2)) : zy Tryz.prog zil [.box id 0, .d (.slice (zce l)),certA c, .d (.str tp), .d (.int .i64 o)] σ K := by
 refine zi zqh.is rfl fun hl _ => zqh.goes ?_
 have fin : ∀ z,zdz L l c tp o = z → K (.tup [zeO z.2.1, .d (.int .i64 z.1)]) (putTab σ id m t z.2.2) := fun z h => h ▸ hK
 clear hK
 have hself := hT.self
 have hlen : (zce l).length = l.length := List.length_map ..
 simp only [zqA,iN,bT,bF,eN]
 (repeat' first | refine gq1 ?_ | with_reducible first | exact ⟨⟩ | refine zg ?_ | fail)
 refine zmo (hT.app _) hI.nd hI.len hI.each ?_
 (repeat' first | refine gq2 hlen ?_ | with_reducible first | exact ⟨⟩ | refine zg ?_ | fail)
 refine zB l.length (fun k vs s => vs = [.d (.int .i64 k)] ∧ (∃ T,s = σ ++ ([.box [.d (.int .i64 c.seq), .d (.int .i64 c.dig), .d (.slice (zax c.signs))], .box [.d (.str tp)], .box [.d (.int .i64 o)],nilPf] ++ T)) ∧ znV tp o l 0 = znV tp o (l.drop k) k) ⟨rfl,⟨_,rfl⟩,by simp⟩ ?_
 rintro k vs s hk ⟨rfl,⟨T,rfl⟩,hpf⟩
 by_cases hlt : k < l.length
 ·have hd : decide ((k : Int) < (l.length : Int)) = true := by simp; omega
  have hx : l[k]? = some l[k] := by simp [hlt]
  have hbx := hb _ (List.getElem_mem hlt)
  have hgx := zU (f := zju) hx
  obtain ⟨b,hbe⟩ : ∃ b,l[k] = b := ⟨_,rfl⟩
  rw [hbe] at hx hgx hbx
  rw [ztP hx] at hpf
  (repeat' first | refine gq2 (zc hd (zc hgx hlen)) ?_ | with_reducible first | exact ⟨⟩ | refine zg ?_ | fail)
  refine c_idxPlaced (t := tp) (o := o) (by have := hbx.len; omega) (fun x K hK => c_mkEq (by rw [zq]; rfl) (by rw [zq]; rfl) hK) ?_
  cases h1 : plAt tp o b.placed 0 with
  | none =>
   simp only [h1] at hpf ⊢
   (repeat' first | refine gq2 (zc (show decide ((-1 : Int) < 0) = true from rfl) (wkc k (by omega))) ?_ | with_reducible first | exact ⟨⟩ | refine zg ?_ | fail)
   exact zap.next hlt ⟨rfl,⟨_,rfl⟩,hpf⟩
  | some j =>
   simp only [h1] at hpf ⊢
   have hj := plAt_lt h1
   have hp0 : b.placed[j]? = some b.placed[j] := by simp [show j < b.placed.length by omega]
   have hps := hbx.each _ (List.getElem_mem (show j < b.placed.length by omega))
   obtain ⟨pl,hpl⟩ : ∃ x,b.placed[j] = x := ⟨_,rfl⟩
   rw [hpl] at hp0 hps
   have hgp := zU (f := zkY) hp0
   have hplen : (zci b.placed).length = b.placed.length := List.length_map ..
   have hn := hbx.len
   have hdr : List.drop k (List.take l.length (zce l)) = zce (l.drop k) := by rw [← hlen,List.take_length]; exact (List.map_drop ..).symm
   have hmk : zdz L l c tp o = match zoY c.seq none (l.drop k) with
    | none => (7,zqW,L)
    | some hs => (0,⟨tp,o,pl.rec_,hs,j,b.placed.length,(zbo b.placed.length L j (b.placed.map zay)).1,c⟩,(zbo b.placed.length L j (b.placed.map zay)).2) := by
    rw [zdz,hpf]
    have e1 : l.getD k ⟨⟨0, 0, 0, 0, 0⟩, [], []⟩ = b := by rw [List.getD_eq_getElem?_getD,hx]; rfl
    have e2 : b.placed.getD j ⟨[], 0, []⟩ = pl := by rw [List.getD_eq_getElem?_getD,hp0]; rfl
    simp only [e1,e2]
    cases zoY c.seq none (l.drop k) <;> rfl
   have dj : decide ((j : Int) < 0) = false := by simp
   (repeat' first | refine gq2 (zc dj (zc hlen hdr)) ?_ | with_reducible first | exact ⟨⟩ | refine zg ?_ | fail)
   refine c_pfRun (by simp; omega) (fun b hb' => (hb b (List.mem_of_mem_drop hb')).seq) ?_
   cases h2 : zoY c.seq none (l.drop k) with
   | none =>
    simp only [h2] at hmk
    (repeat' first | refine gq45 ?_ | with_reducible first | exact ⟨⟩ | refine zg ?_ | fail)
    (first | refine zX hl ?_ | refine zW hl ?_)
    have := fin _ hmk
    rw [hself] at this
    exact this
   | some hs =>
    simp only [h2] at hmk
    (repeat' first | refine gq45 ?_ | with_reducible first | exact ⟨⟩ | refine zg ?_ | fail)
    refine c_blLeaves (by omega) hbx.each ?_
    (repeat' first | refine gq1 ?_ | with_reducible first | exact ⟨⟩ | refine zg ?_ | fail)
    refine c_mkProve (l := b.placed.map zay) (by rw [List.length_map]; omega) (hT.app _) hI (by rw [List.length_map]; exact hn) (fun x hx' => by
     obtain ⟨p,hp,rfl⟩ := List.mem_map.1 hx'
     exact zhm (hbx.each p hp)) ?_
    have fin0 := fin _ hmk
    rw [List.length_map,ztv hT]
    obtain ⟨A,hA⟩ : ∃ A,zbo b.placed.length L j (b.placed.map zay) = A := ⟨_,rfl⟩
    rw [hA] at fin0 ⊢
    have hl2 : σ.length = (putTab σ id m t A.2).length := (zcv ..).symm
    have hlo := hT.lows hl A.2
    obtain ⟨S,hS⟩ : ∃ S,putTab σ id m t A.2 = S := ⟨_,rfl⟩
    simp only [hS] at fin0 hl2 hlo ⊢
    (repeat' first | refine gq2 hl2 ?_ | with_reducible first | exact ⟨⟩ | refine zg ?_ | fail)
    refine c_clSign hc ?_
    (repeat' first | refine gq2 (zc hl2 (zc hgp hplen)) ?_ | with_reducible first | exact ⟨⟩ | refine zg ?_ | fail)
    have hpr := hps.rec_
    refine c_clRec (by omega) ?_
    (repeat' first | refine gq2 (zc hl2 (zc hgp hplen)) ?_ | with_reducible first | exact ⟨⟩ | refine zg ?_ | fail)
    rw [← hl2]
    refine zcN hl2.symm ?_ hlo ?_
    ·simp [zcZ,dmT,dm,dm1,zcf,zbu,zeu]
    ·exact fin0
 ·have hd : decide ((k : Int) < (l.length : Int)) = false := by simp; omega
  rw [List.drop_eq_nil_of_le (by omega)] at hpf
  (repeat' first | refine gq2 hd ?_ | with_reducible first | exact ⟨⟩ | refine zg ?_ | fail)
  (first | refine zX hl ?_ | refine zW hl ?_)
  have := fin _ (show zdz L l c tp o = (4,zqW,L) by rw [zdz,hpf]; rfl)
  rw [hself] at this
  exact this
end Go.Proofs.YtncpaekiidpchaaGreat
