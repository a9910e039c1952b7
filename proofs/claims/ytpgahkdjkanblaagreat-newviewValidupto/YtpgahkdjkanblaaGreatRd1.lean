/- Contracts: the reader's small methods. -/
import Derived.Test.YtpgahkdjkanblaaGreatCodec1
import Derived.Test.YtpgahkdjkanblaaGreatKr4
import Derived.Test.YtpgahkdjkanblaaGreatOp6
import Derived.Test.YtpgahkdjkanblaaGreatSpTab
import Derived.Test.YtpgahkdjkanblaaGreatRq2
set_option linter.all false
set_option maxRecDepth 100000
set_option linter.unusedSimpArgs false
namespace Go.Proofs.YtpgahkdjkanblaaGreat
open Go.AW

def Cell (c : AV) (B : List UInt8) : Prop := c = .d (.slice (bcs B)) ∨ ∃ t, c = .own t (bcs B)
end Go.Proofs.YtpgahkdjkanblaaGreat

/- Contracts: reading numbers and byte strings. -/
set_option maxRecDepth 100000

set_option linter.unusedSimpArgs false

namespace Go.Proofs.YtpgahkdjkanblaaGreat

open Go.AW

def Nxt (c c' : AV) : Prop := c' = c ∨ ∃ x, c' = .d x
theorem Nxt.rfl {c : AV} : Nxt c c := .inl (Eq.refl c)
theorem Nxt.trans {a b c : AV} (h : Nxt a b) (g : Nxt b c) : Nxt a c := by
  rcases g with rfl | g
  · exact h
  · exact .inr g
theorem Nxt.low {n : Nat} {a b : AV} (h : Nxt a b) (g : Low n a) : Low n b := by
  rcases h with rfl | ⟨x, rfl⟩
  · exact g
  · exact .d _
end Go.Proofs.YtpgahkdjkanblaaGreat

/- Contracts: reading byte strings, operations. -/
set_option maxRecDepth 100000
set_option linter.unusedSimpArgs false
namespace Go.Proofs.YtpgahkdjkanblaaGreat
open Go.AW

end Go.Proofs.YtpgahkdjkanblaaGreat

/- Contracts: Parse. -/
set_option maxRecDepth 100000
set_option linter.unusedSimpArgs false
namespace Go.Proofs.YtpgahkdjkanblaaGreat
open Go.AW

end Go.Proofs.YtpgahkdjkanblaaGreat

/- Requests, signatures and batches, as they are read. No program in sight. -/
set_option linter.unusedSimpArgs false
set_option linter.unusedVariables false
namespace Go.AW

def nilRq : zu := ⟨0, 0, noOp, 0, 0⟩
def doneE (s : Rd) : Int := if s.e = 0 ∧ 0 < s.b.length then 12 else s.e
def lateE (e : Int) (t : Nat) : Int := if e = 0 ∧ t = 0 then 80 else e
def pickR (f : Int) (x : zu) : zu := if f = 0 then x else nilRq
def signZ (c : Bool) (d : Nat × Rd) : Rd := if d.2.e = 0 ∧ d.1 = 0 then d.2.fail c 81 else d.2
def reqP (c : Bool) (b : List UInt8) : zu × Int :=
  let k := zpS c 7 ⟨b, 0⟩
  let t := zpS c 9007199254740992 k.2
  let o := zqh c zib t.2
  let f := lateE (doneE o.2) t.1
  (pickR f ⟨k.1, t.1, o.1, 0, 0⟩, f)
def signP (c : Bool) (s : Rd) : (Nat × Nat) × Rd :=
  let k := zpS c 20 s
  let d := zpS c 9007199254740992 k.2
  let z := signZ c d
  (if z.e = 0 then (k.1, d.1) else (0, 0), z)
def oneP (c : Bool) (s : Rd) : zu × Rd :=
  let b := zkt c 1024 s
  let x := reqP c b.1
  let g := signP c (b.2.fail c x.2)
  (⟨x.1.client, x.1.time, x.1.op, g.1.1, g.1.2⟩, g.2)
def znx (c : Bool) : Nat → Rd → List zu × Rd
  | 0, s => ([], s)
  | k + 1, s => ((znx c k s).1 ++ [(oneP c (znx c k s).2).1], (oneP c (znx c k s).2).2)
def batchP (c : Bool) (s : Rd) : List zu × Rd :=
  let n := zpS c 4 s
  let p := znx c n.1 n.2
  let z := p.2.fail c (zy p.1)
  (if z.e = 0 then p.1 else [], z)

theorem Rd.like.refl (s : Rd) : s.like s := ⟨rfl, fun _ => rfl⟩
theorem done_like {s t : Rd} (h : s.like t) : doneE s = doneE t := by
  unfold doneE
  obtain ⟨h1, h2⟩ := h
  by_cases h0 : s.e = 0
  · rw [h2 h0, h1]
  · rw [if_neg (fun g => h0 g.1), if_neg (fun g => h0 (h1 ▸ g.1)), h1]
theorem reqP_like (c d : Bool) (b : List UInt8) : reqP c b = reqP d b := by
  obtain ⟨k1, k2⟩ := (Rd.like.refl ⟨b, 0⟩).num (c := c) (d := d) (m := 7)
  obtain ⟨t1, t2⟩ := k2.num (c := c) (d := d) (m := 9007199254740992)
  obtain ⟨o1, o2⟩ := t2.takeOp (c := c) (d := d) (name := zib)
  have e := done_like o2
  unfold reqP
  simp only
  rw [e, t1, k1, o1]
theorem Rd.like.sign {s t : Rd} {c d : Bool} (h : s.like t) : (signP c s).1 = (signP d t).1 ∧ (signP c s).2.like (signP d t).2 := by
  obtain ⟨k1, k2⟩ := h.num (c := c) (d := d) (m := 20)
  obtain ⟨t1, t2⟩ := k2.num (c := c) (d := d) (m := 9007199254740992)
  have z := t2.fail (c := c) (d := d) (x := 81)
  have hz : (signZ c (zpS c 9007199254740992 (zpS c 20 s).2)).like (signZ d (zpS d 9007199254740992 (zpS d 20 t).2)) := by
    unfold signZ
    rw [← t1, ← t2.1]
    split
    · exact z
    · exact t2
  unfold signP
  simp only
  rw [← k1, ← t1, ← hz.1]
  exact ⟨rfl, hz⟩
theorem Rd.like.one {s t : Rd} {c d : Bool} (h : s.like t) : (oneP c s).1 = (oneP d t).1 ∧ (oneP c s).2.like (oneP d t).2 := by
  obtain ⟨b1, b2⟩ := h.bytes (c := c) (d := d) (m := 1024)
  have e := reqP_like c d (zkt c 1024 s).1
  have f := b2.fail (c := c) (d := d) (x := (reqP c (zkt c 1024 s).1).2)
  obtain ⟨g1, g2⟩ := f.sign (c := c) (d := d)
  unfold oneP
  simp only
  rw [← b1, ← e, ← g1]
  exact ⟨rfl, g2⟩
theorem Rd.like.items {s t : Rd} {c d : Bool} (h : s.like t) : ∀ k, (znx c k s).1 = (znx d k t).1 ∧ (znx c k s).2.like (znx d k t).2
  | 0 => ⟨rfl, h⟩
  | k + 1 => by
    obtain ⟨a, b⟩ := Rd.like.items h (c := c) (d := d) k
    obtain ⟨e1, e2⟩ := b.one (c := c) (d := d)
    exact ⟨by simp only [znx, a, e1], e2⟩
theorem Rd.like.batch {s t : Rd} {c d : Bool} (h : s.like t) : (batchP c s).1 = (batchP d t).1 ∧ (batchP c s).2.like (batchP d t).2 := by
  obtain ⟨n1, n2⟩ := h.num (c := c) (d := d) (m := 4)
  obtain ⟨p1, p2⟩ := n2.items (c := c) (d := d) (zpS c 4 s).1
  have z := p2.fail (c := c) (d := d) (x := zy (znx c (zpS c 4 s).1 (zpS c 4 s).2).1)
  unfold batchP
  simp only
  rw [← n1, ← p1, ← z.1]
  exact ⟨rfl, z⟩

/-! a reader that is stuck zoJ -/
end Go.AW

/- Contracts: requests, signatures and batches are read. -/
set_option maxRecDepth 100000
set_option linter.unusedSimpArgs false
set_option linter.unusedVariables false
namespace Go.Proofs.YtpgahkdjkanblaaGreat
open Go.AW

end Go.Proofs.YtpgahkdjkanblaaGreat

/- Contracts: the bytes of a batch, in a row that may grow. -/
set_option maxRecDepth 100000
set_option linter.unusedSimpArgs false
set_option linter.unusedVariables false
namespace Go.Proofs.YtpgahkdjkanblaaGreat
open Go.AW

theorem zvj {σ : List zf} {b : List UInt8} {k d : Int} (hb : b.length ≤ 1073741700) (hc : zL k d = 0) {K : KT} (hK : K (.own σ.length (bcs (b ++ zfD k d))) (σ ++ [.tok 1 (b ++ zfD k d).length])) :
    zm Tryz.prog zdx [.d (.slice (bcs b)), .agg [.d (.int .i64 k), .d (.int .i64 d)]] σ K := by
  refine zcl zeN.is rfl (fun s => [s.length - 1]) fun hl _ => zeN.goes ?_
  obtain ⟨k0, k1, d0, d1⟩ := zvK hc
  have hq : (zL k d != 0) = false := by simpa using hc
  have n1 := zp (n := k.toNat) (by omega)
  have w1 : IntKind.u64.wrap k = ((k.toNat : Nat) : Int) := by
    rw [show k = ((k.toNat : Nat) : Int) by omega, zcC (by omega)]; rfl
  have w2 : IntKind.u64.wrap d = ((d.toNat : Nat) : Int) := by
    rw [show d = ((d.toNat : Nat) : Int) by omega, zcC (by omega)]; rfl
  simp only [zgU, iN, bT, bF, eN]
  refine zao ?_
  refine zeO ?_
  refine zH (zi hq (zi w1 w2)) ?_
  refine zdU (by omega) (by omega) ?_
  refine zH (zi w1 w2) ?_
  refine zdU (by omega) (by simp; omega) ?_
  refine zao ?_
  refine zmn (t := σ.length + 2) (sz := 1) (n := (b ++ zfD k d).length) (by simp) hl (by omega) ?_ ?_
  · rw [zC]; simp [zfD, Nat.add_assoc]
  · exact hK
theorem c_partsPutO {σ : List zf} {b : List UInt8} {l : List zu} (hb : b.length ≤ 268435456) (hs : ∀ x ∈ l, zlX x.op ≤ 20971520) (hc : zy l = 0) {K : KT} (hK : K (.own σ.length (bcs (b ++ zff l))) (σ ++ [.tok 1 (b ++ zff l).length])) :
    zm Tryz.prog zdL [.d (.slice (zbo l)), .d (.slice (bcs b))] σ K := by
  refine zcl zdR.is rfl (fun s => [s.length - 1]) fun hl _ => zdR.goes ?_
  obtain ⟨h4, hm, _⟩ := zlg hc
  have n1 := zp (n := l.length) (by omega)
  have w1 : IntKind.u64.wrap (l.length : Int) = (l.length : Int) := zcC (by omega)
  simp only [zfv, iN, bT, bF, eN]
  refine zH w1 ?_
  refine zdU (by omega) (by omega) ?_
  refine zao ?_
  refine zl l.length (fun k vs s => ∃ T, s = σ ++ T ++ [.tok 1 (b ++ (zcf l.length ++ zcH (l.take k))).length] ∧ vs = [.own (σ ++ T).length (bcs (b ++ (zcf l.length ++ zcH (l.take k)))), .d (.int .i64 k)])
    ⟨[], by simp [zcH], by simp [zcH]⟩ ?_
  rintro k vs s hk ⟨T, rfl, rfl⟩
  by_cases hlt : k < l.length
  · have hd : decide ((k : Int) < (l.length : Int)) = true := by simp; omega
    have hx : l[k]? = some l[k] := by simp [hlt]
    have hgx := zQ (f := zaM) hx
    have hxs := hs _ (List.getElem_mem hlt)
    have hxm := hm _ (List.getElem_mem hlt)
    obtain ⟨x, hxe⟩ : ∃ x, l[k] = x := ⟨_, rfl⟩
    rw [hxe] at hx hgx hxs hxm
    have hbl := zoB hs hc k
    have hrl := zmb hxs
    have hpl := zgW (x := zbD x) (by omega)
    obtain ⟨t, ht⟩ : ∃ t, (σ ++ T).length = t := ⟨_, rfl⟩
    obtain ⟨S, hS⟩ : ∃ S, σ ++ T ++ [zf.tok 1 (b ++ (zcf l.length ++ zcH (l.take k))).length] = S := ⟨_, rfl⟩
    have hS2 : S = σ ++ (T ++ [zf.tok 1 (b ++ (zcf l.length ++ zcH (l.take k))).length]) := by rw [← hS, List.append_assoc]
    rw [ht, hS]
    refine znj (zi hd hgx) ?_
    refine zth (x := x) hxs ?_
    refine znj (zi hd hgx) ?_
    refine zno (by omega) (by simp; omega) ?_
    refine znj (zi hd hgx) ?_
    refine zvj (by simp only [zra, List.length_append] at hpl ⊢; omega) hxm.2 ?_
    refine zH (wk1 k (by omega)) ?_
    have hwl : (zcH (l.take (k + 1))).length = (zcH (l.take k)).length + ((zcf (zbD x).length).length + ((zbD x).length + (zfD x.key x.dig).length)) := by
      rw [zjz hx]; simp [oneB, zra, zbD, hxm.1, Nat.add_assoc]
    have hw : b ++ (zcf l.length ++ zcH (l.take (k + 1))) = b ++ (zcf l.length ++ (zcH (l.take k) ++ (zcf (zbD x).length ++ (zbD x ++ zfD x.key x.dig)))) := by
      rw [zjz hx]
      simp [oneB, zra, zbD, hxm.1]
    refine zaG.next hlt ⟨T ++ [zf.tok 1 (b ++ (zcf l.length ++ zcH (l.take k))).length] ++ [zf.box [.d (.int .i64 x.client), .d (.int .i64 x.time), .d (.int .i64 x.op.kind), .d (.str x.op.topic), .d (.str x.op.group), .d (.int .i64 x.op.offset), .d (.slice (zeT x.op.recs)), .d (.int .i64 x.key), .d (.int .i64 x.dig)], .tok 1 (b ++ (zcf l.length ++ (zcH (l.take k) ++ (zcf (zbD x).length ++ zbD x)))).length], ?_, ?_⟩
    · simp only [hw, hS2]; simp [Nat.add_assoc, hwl]
    · simp only [hw, hS2]; simp [Nat.add_assoc]
  · have hd : decide ((k : Int) < (l.length : Int)) = false := by simp; omega
    rw [List.take_of_length_le (by omega)]
    simp only [List.append_assoc]
    refine zH hd ?_
    refine zmn (t := σ.length + T.length) (sz := 1) (n := (b ++ zff l).length) ?_ hl (by omega) ?_ ?_
    · simp only [List.length_append, List.length_cons, List.length_nil]; congr 1
    · rw [zC, zt]; simp [zff]
    · exact hK
theorem c_PutBatchO {σ : List zf} {b : List UInt8} {l : List zu} (hb : b.length ≤ 268435456) (hs : ∀ x ∈ l, zlX x.op ≤ 20971520) (hc : zy l = 0) {K : KT} (hK : K (.own σ.length (bcs (b ++ zff l))) (σ ++ [.tok 1 (b ++ zff l).length])) :
    zm Tryz.prog zdd [.d (.slice (bcs b)), .d (.slice (zbo l))] σ K := by
  refine zcl zem.is rfl (fun s => [s.length - 1]) fun hl _ => zem.goes ?_
  have h4 := (zlg hc).1
  have hok : okB l := ⟨by omega, fun x hx => sizes (hs x hx)⟩
  have hq : (zy l != 0) = false := by simpa using hc
  simp only [zga, iN, bT, bF, eN]
  refine zao ?_
  refine zjy hok ?_
  refine zH hq ?_
  refine c_partsPutO hb hs hc ?_
  refine zao ?_
  refine zmn (t := σ.length) (sz := 1) (n := (b ++ zff l).length) (by simp) hl (by omega) ?_ ?_
  · rw [zt]; simp
  · exact hK
end Go.Proofs.YtpgahkdjkanblaaGreat
