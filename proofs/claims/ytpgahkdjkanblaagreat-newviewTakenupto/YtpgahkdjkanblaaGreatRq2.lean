/- Contracts: the bytes of requests, signatures and batches. -/
import Derived.Test.YtpgahkdjkanblaaGreatSm7
import Derived.Test.YtpgahkdjkanblaaGreatCk2
import Derived.Test.YtpgahkdjkanblaaGreatSpTab
import Derived.Test.YtpgahkdjkanblaaGreatCodec1
import Derived.Test.YtpgahkdjkanblaaGreatSh
import Derived.Test.YtpgahkdjkanblaaGreatNr3
set_option linter.all false
set_option maxRecDepth 100000
set_option linter.unusedSimpArgs false
set_option linter.unusedVariables false
namespace Go.Proofs.YtpgahkdjkanblaaGreat
open Go.AW

def keyF (c : Int) : Int := if c < 0 ∨ c ≥ 8 then -1 else 13 + c
theorem c_rqKey {σ : List zd} {c : Int} {K : KT} (hK : K (.d (.int .i64 (keyF c))) σ) : zl Tryz.prog zll [.d (.int .i64 c)] σ K := by
  refine ze zpq.is rfl fun hl _ => zpq.goes ?_
  simp only [zpL, iN, bT, bF, eN]
  (repeat' (first | (refine gq3 ?_; try with_reducible exact True.intro) | (refine zaU (fun h => ?_) (fun h => ?_) <;> (try rw [h])) | ((with_reducible refine And.intro ?_ ?_); focus (first | omega | rfl | decide))))
  all_goals (
    refine zV hl ?_
    (try simp only [decide_eq_true_eq, decide_eq_false_iff_not, beq_iff_eq, beq_eq_false_iff_ne, bne_iff_ne, ne_eq, Bool.not_eq_true', Bool.not_eq_false', bne_eq_false_iff_eq] at *)
    unfold keyF at hK)
  · rw [if_pos (by omega)] at hK; exact hK
  · rw [if_pos (by omega)] at hK; exact hK
  · rw [if_neg (by omega)] at hK; rw [zbE (by omega) (by omega)]; exact hK
theorem zuw {x : zu} (h : zmB x.op ≤ 20971520) : okO x.op := by
  have h0 := h
  unfold zmB at h
  refine ⟨by omega, by omega, ?_, fun r hr => ?_⟩
  · have := zor x.op.recs; omega
  · have := rec_le hr; omega
theorem zsz {σ : List zd} {x : zu} (hx : zmB x.op ≤ 20971520) {K : KT} (hK : K (.tup [.d (.slice (bcs (zcI x))), .d (.int .i64 (zaT x))]) σ) : zl Tryz.prog zgn [reqA x] σ K := by
  refine ze zmV.is rfl fun hl _ => zmV.goes ?_
  have hsz := zuw hx
  simp only [znj, iN, bT, bF, eN, reqA]
  refine zaF ?_
  refine c_rqCheck (x := x) hsz ?_
  by_cases hc : zaT x = 0
  · obtain ⟨c0, c8, t1, t2, ho⟩ := req_ok hc
    have hb : (zaT x != 0) = false := by simpa using hc
    have n1 := zC (n := x.client.toNat) (by omega)
    have n2 := zC (n := x.time.toNat) (by omega)
    have w1 : IntKind.u64.wrap x.client = ((x.client.toNat : Nat) : Int) := by
      rw [show x.client = ((x.client.toNat : Nat) : Int) by omega, zgj (by omega)]; rfl
    have w2 : IntKind.u64.wrap x.time = ((x.time.toNat : Nat) : Int) := by
      rw [show x.time = ((x.time.toNat : Nat) : Int) by omega, zgj (by omega)]; rfl
    rw [hc, zcI, if_pos hc] at hK
    refine zeB (zq hb (zq w1 w2)) ?_
    refine zeF (b := []) (by omega) (by simp) ?_
    refine zeB (zq w1 w2) ?_
    refine zeF (by omega) (by first | omega | (simp; omega)) ?_
    refine zeB (zq w1 w2) ?_
    refine c_Put (o := x.op) (by first | omega | (simp; omega)) (by omega) ?_
    refine zaF ?_
    refine zV hl ?_
    rw [if_pos ho]
    exact hK
  · have hb : (zaT x != 0) = true := by simpa using hc
    rw [zcI, if_neg hc] at hK
    refine zeB hb ?_
    refine zV hl ?_
    exact hK
theorem c_PutSign {σ : List zd} {b : List UInt8} {k d : Int} (hb : b.length ≤ 1073741700) {K : KT} (hK : K (.d (.slice (bcs (b ++ znv k d)))) σ) :
    zl Tryz.prog zef [.d (.slice (bcs b)), .agg [.d (.int .i64 k), .d (.int .i64 d)]] σ K := by
  refine ze zfy.is rfl fun hl _ => zfy.goes ?_
  simp only [zhu, iN, bT, bF, eN]
  refine zaF ?_
  refine zdO ?_
  by_cases hc : zag k d = 0
  · obtain ⟨k0, k1, d0, d1⟩ := sign_ok hc
    have hq : (zag k d != 0) = false := by simpa using hc
    have n1 := zC (n := k.toNat) (by omega)
    have w1 : IntKind.u64.wrap k = ((k.toNat : Nat) : Int) := by
      rw [show k = ((k.toNat : Nat) : Int) by omega, zgj (by omega)]; rfl
    have w2 : IntKind.u64.wrap d = ((d.toNat : Nat) : Int) := by
      rw [show d = ((d.toNat : Nat) : Int) by omega, zgj (by omega)]; rfl
    rw [znv, if_pos hc] at hK
    refine zeB (zq hq (zq w1 w2)) ?_
    refine zeF (by omega) (by omega) ?_
    refine zeB (zq w1 w2) ?_
    refine zeF (by omega) (by first | omega | (simp; omega)) ?_
    refine zaF ?_
    refine zV hl ?_
    exact hK
  · have hq : (zag k d != 0) = true := by simpa using hc
    rw [znv, if_neg hc, List.append_nil] at hK
    refine zeB hq ?_
    refine zfz zht (by rw [zem]; omega) ?_
    refine zaF ?_
    refine zV hl ?_
    exact hK
theorem c_partsPut {σ : List zd} {b : List UInt8} {l : List zu} (hb : b.length ≤ 268435456) (hs : ∀ x ∈ l, zmB x.op ≤ 20971520) (hc : zD l = 0) {K : KT} (hK : K (.d (.slice (bcs (b ++ zcP l)))) σ) :
    zl Tryz.prog zex [.d (.slice (zbD l)), .d (.slice (bcs b))] σ K := by
  refine ze zeC.is rfl fun hl _ => zeC.goes ?_
  obtain ⟨h4, hm, _⟩ := znJ hc
  have n1 := zC (n := l.length) (by omega)
  have w1 : IntKind.u64.wrap (l.length : Int) = (l.length : Int) := zgj (by omega)
  simp only [zfY, iN, bT, bF, eN]
  refine zeB w1 ?_
  refine zeF (by omega) (by omega) ?_
  refine zaF ?_
  refine zgb l.length (fun k vs s => (∃ T, s = σ ++ T) ∧ vs = [.d (.slice (bcs (b ++ (zdv l.length ++ zds (l.take k))))), .d (.int .i64 k)])
    (.data 0 _ _ rfl rfl (.refl _ _)) ⟨⟨_, rfl⟩, by simp [zds]⟩ ?_
  rintro k vs s hk ⟨⟨T, rfl⟩, rfl⟩
  by_cases hlt : k < l.length
  · have hd : decide ((k : Int) < (l.length : Int)) = true := by simp; omega
    have hx : l[k]? = some l[k] := by simp [hlt]
    have hgx := zal (f := zbl) hx
    have hxs := hs _ (List.getElem_mem hlt)
    have hxm := hm _ (List.getElem_mem hlt)
    obtain ⟨x, hxe⟩ : ∃ x, l[k] = x := ⟨_, rfl⟩
    rw [hxe] at hx hgx hxs hxm
    have hbl := zoJ hs hc k
    have hrl := zqX hxs
    have hpl := zli (x := zcI x) (by omega)
    obtain ⟨S, hS⟩ : ∃ S, σ ++ T = S := ⟨_, rfl⟩
    rw [hS]
    refine gq46 (zq hd hgx) ?_
    refine zsz (x := x) hxs ?_
    refine gq46 (zq hd hgx) ?_
    refine znI (by omega) (by simp; omega) ?_
    refine gq46 (zq hd hgx) ?_
    refine c_PutSign (by simp only [ztu, List.length_append] at hpl ⊢; omega) ?_
    refine zeB (wk1 k (by omega)) ?_
    refine zbp.next hlt ⟨⟨_, by rw [← hS, List.append_assoc]⟩, ?_⟩
    rw [znc hx]
    simp [oneB, ztu, zcI, znv, hxm.1, hxm.2]
  · have hd : decide ((k : Int) < (l.length : Int)) = false := by simp; omega
    rw [List.take_of_length_le (by omega)]
    refine zeB hd ?_
    refine zV hl ?_
    exact hK
theorem zqI {σ : List zd} {b : List UInt8} {l : List zu} (hb : b.length ≤ 268435456) (hs : ∀ x ∈ l, zmB x.op ≤ 20971520) (hl0 : l.length ≤ 1073741824) {K : KT} (hK : K (.d (.slice (bcs (b ++ zeG l)))) σ) :
    zl Tryz.prog zcf [.d (.slice (bcs b)), .d (.slice (zbD l))] σ K := by
  refine ze zfh.is rfl fun hl _ => zfh.goes ?_
  have hok : okB l := ⟨hl0, fun x hx => zuw (hs x hx)⟩
  simp only [zgC, iN, bT, bF, eN]
  refine zaF ?_
  refine zfr hok ?_
  by_cases hc : zD l = 0
  · have hq : (zD l != 0) = false := by simpa using hc
    rw [zeG, if_pos hc] at hK
    refine zeB hq ?_
    refine c_partsPut hb hs hc ?_
    refine zaF ?_
    refine zV hl ?_
    exact hK
  · have hq : (zD l != 0) = true := by simpa using hc
    rw [zeG, if_neg hc, List.append_nil] at hK
    refine zeB hq ?_
    refine zfz zht (by rw [zem]; omega) ?_
    refine zaF ?_
    refine zV hl ?_
    exact hK
end Go.Proofs.YtpgahkdjkanblaaGreat

/- Contracts: the bytes of view-changes, the document's. -/
set_option maxRecDepth 100000
set_option linter.unusedSimpArgs false
set_option linter.unusedVariables false
namespace Go.Proofs.YtpgahkdjkanblaaGreat
open Go.AW

end Go.Proofs.YtpgahkdjkanblaaGreat

/- One byte of a number, as a loop over at most ten reads it. No program in sight. -/
/- A number's next seven bits. No program in sight. -/
set_option linter.unusedSimpArgs false
namespace Go.AW
open Go

end Go.AW

set_option linter.unusedSimpArgs false

namespace Go.AW

end Go.AW

/- Contracts: the reader's small methods. -/
set_option maxRecDepth 100000
set_option linter.unusedSimpArgs false
namespace Go.Proofs.YtpgahkdjkanblaaGreat
open Go.AW

def Cell (c : AV) (B : List UInt8) : Prop := c = .d (.slice (bcs B)) ∨ ∃ t, c = .own t (bcs B)
end Go.Proofs.YtpgahkdjkanblaaGreat

/- Contracts: reading numbers and byte strings. -/
set_option maxRecDepth 100000

set_option linter.unusedSimpArgs false

namespace Go.Proofs.YtpgahkdjkanblaaGreat

open Go.AW

def Nxt (c c' : AV) : Prop := c' = c ∨ ∃ x, c' = .d x
theorem Nxt.rfl {c : AV} : Nxt c c := .inl (Eq.refl c)
theorem Nxt.trans {a b c : AV} (h : Nxt a b) (g : Nxt b c) : Nxt a c := by
  rcases g with rfl | g
  · exact h
  · exact .inr g
theorem Nxt.low {n : Nat} {a b : AV} (h : Nxt a b) (g : Low n a) : Low n b := by
  rcases h with rfl | ⟨x, rfl⟩
  · exact g
  · exact .d _
end Go.Proofs.YtpgahkdjkanblaaGreat

/- Contracts: reading byte strings, operations. -/
set_option maxRecDepth 100000
set_option linter.unusedSimpArgs false
namespace Go.Proofs.YtpgahkdjkanblaaGreat
open Go.AW

end Go.Proofs.YtpgahkdjkanblaaGreat

/- Contracts: Parse. -/
set_option maxRecDepth 100000
set_option linter.unusedSimpArgs false
namespace Go.Proofs.YtpgahkdjkanblaaGreat
open Go.AW

end Go.Proofs.YtpgahkdjkanblaaGreat

/- Requests, signatures and batches, as they are read. No program in sight. -/
set_option linter.unusedSimpArgs false
set_option linter.unusedVariables false
namespace Go.AW

def nilRq : zu := ⟨0, 0, noOp, 0, 0⟩
def doneE (s : Rd) : Int := if s.e = 0 ∧ 0 < s.b.length then 12 else s.e
def lateE (e : Int) (t : Nat) : Int := if e = 0 ∧ t = 0 then 80 else e
def pickR (f : Int) (x : zu) : zu := if f = 0 then x else nilRq
def signZ (c : Bool) (d : Nat × Rd) : Rd := if d.2.e = 0 ∧ d.1 = 0 then d.2.fail c 81 else d.2
def reqP (c : Bool) (b : List UInt8) : zu × Int :=
  let k := zpT c 7 ⟨b, 0⟩
  let t := zpT c 9007199254740992 k.2
  let o := zpY c zmI t.2
  let f := lateE (doneE o.2) t.1
  (pickR f ⟨k.1, t.1, o.1, 0, 0⟩, f)
def signP (c : Bool) (s : Rd) : (Nat × Nat) × Rd :=
  let k := zpT c 20 s
  let d := zpT c 9007199254740992 k.2
  let z := signZ c d
  (if z.e = 0 then (k.1, d.1) else (0, 0), z)
def oneP (c : Bool) (s : Rd) : zu × Rd :=
  let b := zkT c 1024 s
  let x := reqP c b.1
  let g := signP c (b.2.fail c x.2)
  (⟨x.1.client, x.1.time, x.1.op, g.1.1, g.1.2⟩, g.2)
def znU (c : Bool) : Nat → Rd → List zu × Rd
  | 0, s => ([], s)
  | k + 1, s => ((znU c k s).1 ++ [(oneP c (znU c k s).2).1], (oneP c (znU c k s).2).2)
def batchP (c : Bool) (s : Rd) : List zu × Rd :=
  let n := zpT c 4 s
  let p := znU c n.1 n.2
  let z := p.2.fail c (zD p.1)
  (if z.e = 0 then p.1 else [], z)

theorem Rd.like.refl (s : Rd) : s.like s := ⟨rfl, fun _ => rfl⟩
theorem done_like {s t : Rd} (h : s.like t) : doneE s = doneE t := by
  unfold doneE
  obtain ⟨h1, h2⟩ := h
  by_cases h0 : s.e = 0
  · rw [h2 h0, h1]
  · rw [if_neg (fun g => h0 g.1), if_neg (fun g => h0 (h1 ▸ g.1)), h1]
theorem reqP_like (c d : Bool) (b : List UInt8) : reqP c b = reqP d b := by
  obtain ⟨k1, k2⟩ := (Rd.like.refl ⟨b, 0⟩).num (c := c) (d := d) (m := 7)
  obtain ⟨t1, t2⟩ := k2.num (c := c) (d := d) (m := 9007199254740992)
  obtain ⟨o1, o2⟩ := t2.takeOp (c := c) (d := d) (name := zmI)
  have e := done_like o2
  unfold reqP
  simp only
  rw [e, t1, k1, o1]
theorem Rd.like.sign {s t : Rd} {c d : Bool} (h : s.like t) : (signP c s).1 = (signP d t).1 ∧ (signP c s).2.like (signP d t).2 := by
  obtain ⟨k1, k2⟩ := h.num (c := c) (d := d) (m := 20)
  obtain ⟨t1, t2⟩ := k2.num (c := c) (d := d) (m := 9007199254740992)
  have z := t2.fail (c := c) (d := d) (x := 81)
  have hz : (signZ c (zpT c 9007199254740992 (zpT c 20 s).2)).like (signZ d (zpT d 9007199254740992 (zpT d 20 t).2)) := by
    unfold signZ
    rw [← t1, ← t2.1]
    split
    · exact z
    · exact t2
  unfold signP
  simp only
  rw [← k1, ← t1, ← hz.1]
  exact ⟨rfl, hz⟩
theorem Rd.like.one {s t : Rd} {c d : Bool} (h : s.like t) : (oneP c s).1 = (oneP d t).1 ∧ (oneP c s).2.like (oneP d t).2 := by
  obtain ⟨b1, b2⟩ := h.bytes (c := c) (d := d) (m := 1024)
  have e := reqP_like c d (zkT c 1024 s).1
  have f := b2.fail (c := c) (d := d) (x := (reqP c (zkT c 1024 s).1).2)
  obtain ⟨g1, g2⟩ := f.sign (c := c) (d := d)
  unfold oneP
  simp only
  rw [← b1, ← e, ← g1]
  exact ⟨rfl, g2⟩
theorem Rd.like.items {s t : Rd} {c d : Bool} (h : s.like t) : ∀ k, (znU c k s).1 = (znU d k t).1 ∧ (znU c k s).2.like (znU d k t).2
  | 0 => ⟨rfl, h⟩
  | k + 1 => by
    obtain ⟨a, b⟩ := Rd.like.items h (c := c) (d := d) k
    obtain ⟨e1, e2⟩ := b.one (c := c) (d := d)
    exact ⟨by simp only [znU, a, e1], e2⟩
theorem Rd.like.batch {s t : Rd} {c d : Bool} (h : s.like t) : (batchP c s).1 = (batchP d t).1 ∧ (batchP c s).2.like (batchP d t).2 := by
  obtain ⟨n1, n2⟩ := h.num (c := c) (d := d) (m := 4)
  obtain ⟨p1, p2⟩ := n2.items (c := c) (d := d) (zpT c 4 s).1
  have z := p2.fail (c := c) (d := d) (x := zD (znU c (zpT c 4 s).1 (zpT c 4 s).2).1)
  unfold batchP
  simp only
  rw [← n1, ← p1, ← z.1]
  exact ⟨rfl, z⟩

/-! a reader that is stuck zoU -/
end Go.AW

/- Contracts: requests, signatures and batches are read. -/
set_option maxRecDepth 100000
set_option linter.unusedSimpArgs false
set_option linter.unusedVariables false
namespace Go.Proofs.YtpgahkdjkanblaaGreat
open Go.AW

end Go.Proofs.YtpgahkdjkanblaaGreat

/- Contracts: the bytes of a batch, in a row that may grow. -/
set_option maxRecDepth 100000
set_option linter.unusedSimpArgs false
set_option linter.unusedVariables false
namespace Go.Proofs.YtpgahkdjkanblaaGreat
open Go.AW

theorem zud {σ : List zd} {b : List UInt8} {k d : Int} (hb : b.length ≤ 1073741700) (hc : zag k d = 0) {K : KT} (hK : K (.own σ.length (bcs (b ++ zie k d))) (σ ++ [.tok 1 (b ++ zie k d).length])) :
    zl Tryz.prog zef [.d (.slice (bcs b)), .agg [.d (.int .i64 k), .d (.int .i64 d)]] σ K := by
  refine zcm zfy.is rfl (fun s => [s.length - 1]) fun hl _ => zfy.goes ?_
  obtain ⟨k0, k1, d0, d1⟩ := sign_ok hc
  have hq : (zag k d != 0) = false := by simpa using hc
  have n1 := zC (n := k.toNat) (by omega)
  have w1 : IntKind.u64.wrap k = ((k.toNat : Nat) : Int) := by
    rw [show k = ((k.toNat : Nat) : Int) by omega, zgj (by omega)]; rfl
  have w2 : IntKind.u64.wrap d = ((d.toNat : Nat) : Int) := by
    rw [show d = ((d.toNat : Nat) : Int) by omega, zgj (by omega)]; rfl
  simp only [zhu, iN, bT, bF, eN]
  refine zaF ?_
  refine zdO ?_
  refine zeB (zq hq (zq w1 w2)) ?_
  refine zeF (by omega) (by omega) ?_
  refine zeB (zq w1 w2) ?_
  refine zeF (by omega) (by simp; omega) ?_
  refine zaF ?_
  refine zmP (t := σ.length + 2) (sz := 1) (n := (b ++ zie k d).length) (by simp) hl (by omega) ?_ ?_
  · rw [zn]; simp [zie, Nat.add_assoc]
  · exact hK
theorem c_partsPutO {σ : List zd} {b : List UInt8} {l : List zu} (hb : b.length ≤ 268435456) (hs : ∀ x ∈ l, zmB x.op ≤ 20971520) (hc : zD l = 0) {K : KT} (hK : K (.own σ.length (bcs (b ++ zcP l))) (σ ++ [.tok 1 (b ++ zcP l).length])) :
    zl Tryz.prog zex [.d (.slice (zbD l)), .d (.slice (bcs b))] σ K := by
  refine zcm zeC.is rfl (fun s => [s.length - 1]) fun hl _ => zeC.goes ?_
  obtain ⟨h4, hm, _⟩ := znJ hc
  have n1 := zC (n := l.length) (by omega)
  have w1 : IntKind.u64.wrap (l.length : Int) = (l.length : Int) := zgj (by omega)
  simp only [zfY, iN, bT, bF, eN]
  refine zeB w1 ?_
  refine zeF (by omega) (by omega) ?_
  refine zaF ?_
  refine zy l.length (fun k vs s => ∃ T, s = σ ++ T ++ [.tok 1 (b ++ (zdv l.length ++ zds (l.take k))).length] ∧ vs = [.own (σ ++ T).length (bcs (b ++ (zdv l.length ++ zds (l.take k)))), .d (.int .i64 k)])
    ⟨[], by simp [zds], by simp [zds]⟩ ?_
  rintro k vs s hk ⟨T, rfl, rfl⟩
  by_cases hlt : k < l.length
  · have hd : decide ((k : Int) < (l.length : Int)) = true := by simp; omega
    have hx : l[k]? = some l[k] := by simp [hlt]
    have hgx := zal (f := zbl) hx
    have hxs := hs _ (List.getElem_mem hlt)
    have hxm := hm _ (List.getElem_mem hlt)
    obtain ⟨x, hxe⟩ : ∃ x, l[k] = x := ⟨_, rfl⟩
    rw [hxe] at hx hgx hxs hxm
    have hbl := zoJ hs hc k
    have hrl := zqX hxs
    have hpl := zli (x := zcI x) (by omega)
    obtain ⟨t, ht⟩ : ∃ t, (σ ++ T).length = t := ⟨_, rfl⟩
    obtain ⟨S, hS⟩ : ∃ S, σ ++ T ++ [zd.tok 1 (b ++ (zdv l.length ++ zds (l.take k))).length] = S := ⟨_, rfl⟩
    have hS2 : S = σ ++ (T ++ [zd.tok 1 (b ++ (zdv l.length ++ zds (l.take k))).length]) := by rw [← hS, List.append_assoc]
    rw [ht, hS]
    refine gq46 (zq hd hgx) ?_
    refine zsz (x := x) hxs ?_
    refine gq46 (zq hd hgx) ?_
    refine znI (by omega) (by simp; omega) ?_
    refine gq46 (zq hd hgx) ?_
    refine zud (by simp only [ztu, List.length_append] at hpl ⊢; omega) hxm.2 ?_
    refine zeB (wk1 k (by omega)) ?_
    have hwl : (zds (l.take (k + 1))).length = (zds (l.take k)).length + ((zdv (zcI x).length).length + ((zcI x).length + (zie x.key x.dig).length)) := by
      rw [znc hx]; simp [oneB, ztu, zcI, hxm.1, Nat.add_assoc]
    have hw : b ++ (zdv l.length ++ zds (l.take (k + 1))) = b ++ (zdv l.length ++ (zds (l.take k) ++ (zdv (zcI x).length ++ (zcI x ++ zie x.key x.dig)))) := by
      rw [znc hx]
      simp [oneB, ztu, zcI, hxm.1]
    refine zbp.next hlt ⟨T ++ [zd.tok 1 (b ++ (zdv l.length ++ zds (l.take k))).length] ++ [zd.box [.d (.int .i64 x.client), .d (.int .i64 x.time), .d (.int .i64 x.op.kind), .d (.str x.op.topic), .d (.str x.op.group), .d (.int .i64 x.op.offset), .d (.slice (zgh x.op.recs)), .d (.int .i64 x.key), .d (.int .i64 x.dig)], .tok 1 (b ++ (zdv l.length ++ (zds (l.take k) ++ (zdv (zcI x).length ++ zcI x)))).length], ?_, ?_⟩
    · simp only [hw, hS2]; simp [Nat.add_assoc, hwl]
    · simp only [hw, hS2]; simp [Nat.add_assoc]
  · have hd : decide ((k : Int) < (l.length : Int)) = false := by simp; omega
    rw [List.take_of_length_le (by omega)]
    simp only [List.append_assoc]
    refine zeB hd ?_
    refine zmP (t := σ.length + T.length) (sz := 1) (n := (b ++ zcP l).length) ?_ hl (by omega) ?_ ?_
    · simp only [List.length_append, List.length_cons, List.length_nil]; congr 1
    · rw [zn, zo]; simp [zcP]
    · exact hK
theorem c_PutBatchO {σ : List zd} {b : List UInt8} {l : List zu} (hb : b.length ≤ 268435456) (hs : ∀ x ∈ l, zmB x.op ≤ 20971520) (hc : zD l = 0) {K : KT} (hK : K (.own σ.length (bcs (b ++ zcP l))) (σ ++ [.tok 1 (b ++ zcP l).length])) :
    zl Tryz.prog zcf [.d (.slice (bcs b)), .d (.slice (zbD l))] σ K := by
  refine zcm zfh.is rfl (fun s => [s.length - 1]) fun hl _ => zfh.goes ?_
  have h4 := (znJ hc).1
  have hok : okB l := ⟨by omega, fun x hx => zuw (hs x hx)⟩
  have hq : (zD l != 0) = false := by simpa using hc
  simp only [zgC, iN, bT, bF, eN]
  refine zaF ?_
  refine zfr hok ?_
  refine zeB hq ?_
  refine c_partsPutO hb hs hc ?_
  refine zaF ?_
  refine zmP (t := σ.length) (sz := 1) (n := (b ++ zcP l).length) (by simp) hl (by omega) ?_ ?_
  · rw [zo]; simp
  · exact hK
end Go.Proofs.YtpgahkdjkanblaaGreat
