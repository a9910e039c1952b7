/- Runes: the first rune of a text, as the document has it and as Go's 'range' has it; names. No program in sight. -/
import Derived.Test.YtfgbofkdhfjegaaGreatCl1
import GoSem.Core.Utf8
import Derived.Test.YtfgbofkdhfjegaaGreatSpTab
set_option linter.all false
set_option maxRecDepth 100000
namespace Go.AW
def at8 (s : List UInt8) (i : Nat) : Nat := (s[i]?.getD 0).toNat
def zlx (c : Nat) : Nat := if c < 128 then 1 else if 194 ≤ c ∧ c < 224 then 2 else if 224 ≤ c ∧ c < 240 then 3 else if 240 ≤ c ∧ c < 245 then 4 else 0
def zgs (s : List UInt8) (z : Nat) : Nat → Nat
 | 0 => at8 s 0 % 2 ^ (7 - z)
 | i + 1 => zgs s z i * 64 + at8 s (i + 1) % 64
def zqw (s : List UInt8) (i : Nat) : Bool := decide (128 ≤ at8 s i ∧ at8 s i < 192)
def zfE (z : Nat) : Nat := if z = 2 then 128 else if z = 3 then 2048 else if z = 4 then 65536 else 0
def zjy (s : List UInt8) : Nat × Nat :=
 let z := zlx (at8 s 0)
 if z = 0 ∨ z > s.length then (0, 0)
 else if z = 1 then (at8 s 0, 1)
 else if (∀ i,i < z → 1 ≤ i → zqw s i = true) then
  if zgs s z (z - 1) < zfE z ∨ zgs s z (z - 1) > 1114111 ∨ (55296 ≤ zgs s z (z - 1) ∧ zgs s z (z - 1) < 57344) then (0, 0) else (zgs s z (z - 1),z)
 else (0, 0)
theorem zth (s : List UInt8) (i : Nat) : at8 s i < 256 := (s[i]?.getD 0).toNat_lt
theorem zle (s : List UInt8) (p i : Nat) : at8 (s.drop p) i = at8 s (p + i) := by simp [at8,List.getElem?_drop]
theorem get_at8 (s : List UInt8) (i : Nat) : ((ByteArray.mk s.toArray).get! i).toNat = at8 s i := by
 simp only [ByteArray.get!,at8]
 rw [getElem!_def]
 simp only [List.getElem?_toArray]
 cases s[i]? <;> rfl
theorem all2 (p : Nat → Bool) : (∀ i,i < 2 → 1 ≤ i → p i = true) ↔ p 1 = true := ⟨fun h => h 1 (by omega) (by omega),fun h i h1 h2 => by
 obtain rfl : i = 1 := by omega
 exact h⟩
theorem all3 (p : Nat → Bool) : (∀ i,i < 3 → 1 ≤ i → p i = true) ↔ p 1 = true ∧ p 2 = true := ⟨fun h => ⟨h 1 (by omega) (by omega),h 2 (by omega) (by omega)⟩,fun h i h1 h2 => by
 have : i = 1 ∨ i = 2 := by omega
 rcases this with rfl | rfl
 ·exact h.1
 ·exact h.2⟩
theorem all4 (p : Nat → Bool) : (∀ i,i < 4 → 1 ≤ i → p i = true) ↔ p 1 = true ∧ p 2 = true ∧ p 3 = true := ⟨fun h => ⟨h 1 (by omega) (by omega),h 2 (by omega) (by omega),h 3 (by omega) (by omega)⟩,fun h i h1 h2 => by
 have : i = 1 ∨ i = 2 ∨ i = 3 := by omega
 rcases this with rfl | rfl | rfl
 ·exact h.1
 ·exact h.2.1
 ·exact h.2.2⟩
def zoW (s : List UInt8) : Nat × Nat := if (zjy s).2 = 0 then (65533, 1) else zjy s
theorem decode_eq (s : List UInt8) (p : Nat) (hp : p < s.length) : Utf8.decode ⟨s.toArray⟩ p = zoW (s.drop p) := by
 have hsz : (ByteArray.mk s.toArray).size = s.length := by simp [ByteArray.size]
 have hl : (s.drop p).length = s.length - p := by simp
 unfold Utf8.decode
 simp only [get_at8,hsz,Nat.add_zero]
 have h0 := zth s p
 have h1 := zth s (p + 1)
 have h2 := zth s (p + 2)
 have h3 := zth s (p + 3)
 simp only [zoW,zjy,zlx,hl,zle,Nat.add_zero]
 generalize e0 : at8 s p = b0 at *
 generalize e1 : at8 s (p + 1) = b1 at *
 generalize e2 : at8 s (p + 2) = b2 at *
 generalize e3 : at8 s (p + 3) = b3 at *
 have hc1 : zqw (s.drop p) 1 = decide (128 ≤ b1 ∧ b1 < 192) := by simp only [zqw,zle,e1]
 have hc2 : zqw (s.drop p) 2 = decide (128 ≤ b2 ∧ b2 < 192) := by simp only [zqw,zle,e2]
 have hc3 : zqw (s.drop p) 3 = decide (128 ≤ b3 ∧ b3 < 192) := by simp only [zqw,zle,e3]
 have p2 : zgs (s.drop p) 2 1 = b0 % 32 * 64 + b1 % 64 := by simp only [zgs,zle,Nat.add_zero,e0,e1]
 have p3 : zgs (s.drop p) 3 2 = b0 % 16 * 4096 + b1 % 64 * 64 + b2 % 64 := by simp only [zgs,zle,Nat.add_zero,e0,e1,e2]; omega
 have p4 : zgs (s.drop p) 4 3 = b0 % 8 * 262144 + b1 % 64 * 4096 + b2 % 64 * 64 + b3 % 64 := by simp only [zgs,zle,Nat.add_zero,e0,e1,e2,e3]; omega
 have c1 : (b1 / 64 == 2) = decide (128 ≤ b1 ∧ b1 < 192) := by rw [Bool.eq_iff_iff]; simp; omega
 have c2 : (b2 / 64 == 2) = decide (128 ≤ b2 ∧ b2 < 192) := by rw [Bool.eq_iff_iff]; simp; omega
 have c3 : (b3 / 64 == 2) = decide (128 ≤ b3 ∧ b3 < 192) := by rw [Bool.eq_iff_iff]; simp; omega
 simp only [c1,c2,c3]
 by_cases a1 : b0 < 128
 ·have : ¬ (1 > s.length - p) := by omega
  simp [a1,this]
 by_cases a2 : 194 ≤ b0 ∧ b0 < 224
 ·have q1 : (b0 / 32 == 6) = true := by simp; omega
  have q2 : (b0 / 16 == 14) = false := by simp; omega
  have q3 : (b0 / 8 == 30) = false := by simp; omega
  simp only [a1,a2,q1,q2,q3,if_false,if_true,all2,hc1,p2,zfE]
  by_cases l1 : p + 1 < s.length
  ·have : ¬ (2 > s.length - p) := by omega
   by_cases k1 : 128 ≤ b1 ∧ b1 < 192
   ·have g1 : 128 ≤ b0 % 32 * 64 + b1 % 64 := by omega
    have g2 : ¬ (b0 % 32 * 64 + b1 % 64 < 128 ∨ b0 % 32 * 64 + b1 % 64 > 1114111 ∨ 55296 ≤ b0 % 32 * 64 + b1 % 64 ∧ b0 % 32 * 64 + b1 % 64 < 57344) := by omega
    simp [l1,this,k1,g1,g2,all2,hc1,p2,zfE,Utf8.runeError]
   ·simp [l1,this,k1,all2,hc1,p2,zfE,Utf8.runeError]
  ·have : 2 > s.length - p := by omega
   simp [l1,this,all2,hc1,p2,zfE,Utf8.runeError]
 by_cases a3 : 224 ≤ b0 ∧ b0 < 240
 ·have q1 : (b0 / 32 == 6) = false := by simp; omega
  have q2 : (b0 / 16 == 14) = true := by simp; omega
  have q3 : (b0 / 8 == 30) = false := by simp; omega
  simp only [a1,a2,a3,q1,q2,q3,if_false,if_true,all3,hc1,hc2,p3,zfE]
  by_cases l1 : p + 2 < s.length
  ·have : ¬ (3 > s.length - p) := by omega
   have l2 : p + 1 < s.length := by omega
   by_cases k1 : 128 ≤ b1 ∧ b1 < 192
   ·by_cases k2 : 128 ≤ b2 ∧ b2 < 192
    ·obtain ⟨v,hv⟩ : ∃ v,v = b0 % 16 * 4096 + b1 % 64 * 64 + b2 % 64 := ⟨_,rfl⟩
     simp only [← hv]
     rw [← hv] at p3
     have hv' : v < 65536 := by omega
     by_cases g : v < 2048 ∨ 55296 ≤ v ∧ v < 57344
     ·have g1 : (decide (v ≥ 2048) && Utf8.valid (v : Int)) = false := by simp [Utf8.valid]; omega
      have g2 : v < 2048 ∨ v > 1114111 ∨ 55296 ≤ v ∧ v < 57344 := by omega
      simp [l1,l2,this,k1,k2,g2,g1,all3,hc1,hc2,p3,zfE,Utf8.runeError]
     ·have g1 : (decide (v ≥ 2048) && Utf8.valid (v : Int)) = true := by simp [Utf8.valid]; omega
      have g2 : ¬ (v < 2048 ∨ v > 1114111 ∨ 55296 ≤ v ∧ v < 57344) := by omega
      rw [g1]
      simp [l1,l2,this,k1,k2,g2,all3,hc1,hc2,p3,zfE,Utf8.runeError]
    ·simp [l1,l2,this,k1,k2,all3,hc1,hc2,p3,zfE,Utf8.runeError]
   ·simp [l1,l2,this,k1,all3,hc1,hc2,p3,zfE,Utf8.runeError]
  ·have : 3 > s.length - p := by omega
   simp [l1,this,all3,hc1,hc2,p3,zfE,Utf8.runeError]
 by_cases a4 : 240 ≤ b0 ∧ b0 < 245
 ·have q1 : (b0 / 32 == 6) = false := by simp; omega
  have q2 : (b0 / 16 == 14) = false := by simp; omega
  have q3 : (b0 / 8 == 30) = true := by simp; omega
  simp only [a1,a2,a3,a4,q1,q2,q3,if_false,if_true,all4,hc1,hc2,hc3,p4,zfE]
  by_cases l1 : p + 3 < s.length
  ·have : ¬ (4 > s.length - p) := by omega
   have l2 : p + 1 < s.length := by omega
   have l3 : p + 2 < s.length := by omega
   by_cases k1 : 128 ≤ b1 ∧ b1 < 192
   ·by_cases k2 : 128 ≤ b2 ∧ b2 < 192
    ·by_cases k3 : 128 ≤ b3 ∧ b3 < 192
     ·obtain ⟨v,hv⟩ : ∃ v,v = b0 % 8 * 262144 + b1 % 64 * 4096 + b2 % 64 * 64 + b3 % 64 := ⟨_,rfl⟩
      simp only [← hv]
      rw [← hv] at p4
      by_cases g : v < 65536 ∨ v > 1114111
      ·have g1 : (decide (v ≥ 65536) && Utf8.valid (v : Int)) = false := by simp [Utf8.valid]; omega
       have g2 : v < 65536 ∨ v > 1114111 ∨ 55296 ≤ v ∧ v < 57344 := by omega
       rw [g1]
       simp [l1,l2,l3,this,k1,k2,k3,g2,all4,hc1,hc2,hc3,p4,zfE,Utf8.runeError]
      ·have g1 : (decide (v ≥ 65536) && Utf8.valid (v : Int)) = true := by simp [Utf8.valid]; omega
       have g2 : ¬ (v < 65536 ∨ v > 1114111 ∨ 55296 ≤ v ∧ v < 57344) := by omega
       rw [g1]
       simp [l1,l2,l3,this,k1,k2,k3,g2,all4,hc1,hc2,hc3,p4,zfE,Utf8.runeError]
     ·simp [l1,l2,l3,this,k1,k2,k3,all4,hc1,hc2,hc3,p4,zfE,Utf8.runeError]
    ·simp [l1,l2,l3,this,k1,k2,all4,hc1,hc2,hc3,p4,zfE,Utf8.runeError]
   ·simp [l1,l2,l3,this,k1,all4,hc1,hc2,hc3,p4,zfE,Utf8.runeError]
  ·have : 4 > s.length - p := by omega
   simp [l1,this,all4,hc1,hc2,hc3,p4,zfE,Utf8.runeError]
 ·have q2 : (b0 / 16 == 14) = false := by simp; omega
  simp only [a1,a2,a3,a4,q2,if_false,if_true]
  by_cases q : b0 / 32 = 6
  ·have h192 : b0 = 192 ∨ b0 = 193 := by omega
   have q3 : (b0 / 8 == 30) = false := by simp; omega
   have g : ¬ (b0 % 32 * 64 + b1 % 64 ≥ 128) := by omega
   simp [q,q3,g,Utf8.runeError]
  ·by_cases q' : b0 / 8 = 30
   ·have g : ¬ ((b0 % 8 * 262144 + b1 % 64 * 4096 + b2 % 64 * 64 + b3 % 64) ≤ 1114111) := by omega
    obtain ⟨v,hv⟩ : ∃ v,v = b0 % 8 * 262144 + b1 % 64 * 4096 + b2 % 64 * 64 + b3 % 64 := ⟨_,rfl⟩
    rw [← hv] at g
    simp only [← hv]
    have g1 : Utf8.valid (v : Int) = false := by simp [Utf8.valid]; omega
    simp [q,q',g1,Utf8.runeError]
   ·simp [q,q',Utf8.runeError]
theorem zjZ (s : List UInt8) : (zjy s).2 ≤ s.length ∧ (zjy s).2 ≤ 4 ∧ (zjy s).1 ≤ 1114111 := by
 have h0 := zth s 0
 have hz : zlx (at8 s 0) ≤ 4 := by unfold zlx; split <;> (try split) <;> (try split) <;> (try split) <;> omega
 simp only [zjy]
 split
 ·simp
 ·rename_i h
  split
  ·rename_i h1; simp only []; omega
  ·split
   ·split
    ·simp
    ·simp only []; omega
   ·simp
theorem goDec_width (s : List UInt8) (h : s ≠ []) : 1 ≤ (zoW s).2 ∧ (zoW s).2 ≤ s.length ∧ (zoW s).1 ≤ 1114111 := by
 have h1 := zjZ s
 have h2 : 0 < s.length := List.length_pos_iff.2 h
 unfold zoW
 split
 ·simp; omega
 ·omega
def badF (v : Nat) : Bool := decide (v < 33 ∨ (127 ≤ v ∧ v ≤ 159) ∨ v = 47 ∨ v = 65533)
def zdC : Nat → List UInt8 → Option Nat
 | 0,_ => none
 | f + 1,s => if s = [] then some 0 else if (zjy s).2 = 0 ∨ badF (zjy s).1 = true then none else (zdC f (s.drop (zjy s).2)).map (· + 1)
def zgI (s : List UInt8) : Nat := match zdC (s.length + 1) s with
 | some n => if n > 16 then 0 else n
 | none => 0
def zdZ (s : List UInt8) : Bool := decide (0 < zgI s)
theorem goDec_bad (s : List UInt8) : badF (zoW s).1 = (decide ((zjy s).2 = 0) || badF (zjy s).1) := by
 unfold zoW
 split
 ·rename_i h; simp [h,badF]
 ·rename_i h; simp [h]
theorem goDec_good {s : List UInt8} (h : badF (zoW s).1 = false) : zoW s = zjy s ∧ (zjy s).2 ≠ 0 ∧ badF (zjy s).1 = false := by
 rw [goDec_bad] at h
 simp at h
 exact ⟨by simp [zoW,h.1],h.1,h.2⟩
theorem zol : ∀ (f g : Nat) (s : List UInt8),s.length < f → s.length < g → zdC f s = zdC g s
 | 0,_,_,h,_ => by omega
 | _, 0,_,_,h => by omega
 | f + 1,g + 1,s,h1,h2 => by
  simp only [zdC]
  split
  ·rfl
  ·rename_i hs
   split
   ·rfl
   ·rename_i hd
    have hw := zjZ s
    have : 0 < s.length := List.length_pos_iff.2 hs
    rw [zol f g _ (by simp; omega) (by simp; omega)]
def zaz (x : zp) : Int := if x.client < 0 ∨ x.client ≥ 8 ∨ x.time < 1 ∨ x.time > 9007199254740992 then 80 else zbp zdZ x.op
def zak (k d : Int) : Int := if k < 0 ∨ k ≥ 21 ∨ d < 1 ∨ d > 9007199254740992 then 81 else 0
def errF (s : zp) : Int := if zaz s ≠ 0 then zaz s else zak s.key s.dig
def zmc : List zp → Int
 | [] => 0
 | s :: r => if errF s ≠ 0 then errF s else zmc r
def ndup (a b : zp) : Prop := ¬ (a.client = b.client ∧ a.time = b.time)
instance : DecidableRel ndup := fun a b => inferInstanceAs (Decidable (¬ _))
def zY (l : List zp) : Int :=
 if l.length > 4 then 3 else if zmc l ≠ 0 then zmc l else if l.Pairwise ndup then 0 else 5
theorem zuJ {l : List zp} : ∀ {k : Nat} {x : zp},l[k]? = some x → zmc (l.take k) = 0 → errF x ≠ 0 → zmc l = errF x := by
 induction l with
 | nil => intro k x h; simp at h
 | cons s r ih =>
  intro k x h h0 hx
  cases k with
  | zero => simp at h; subst h; simp [zmc,hx]
  | succ k =>
   simp only [List.take_succ_cons,zmc] at h0 ⊢
   simp at h
   split at h0
   ·rename_i hs; exact absurd h0 hs
   ·rename_i hs; rw [if_neg hs]; exact ih h h0 hx
theorem errsF_snoc {l : List zp} {k : Nat} {x : zp} (h : l[k]? = some x) (h0 : zmc (l.take k) = 0) (hx : errF x = 0) : zmc (l.take (k + 1)) = 0 := by
 have key : ∀ (a : List zp),zmc a = 0 → zmc (a ++ [x]) = 0 := by
  intro a
  induction a with
  | nil => intro _; simp [zmc,hx]
  | cons s r ih =>
   intro h
   simp only [List.cons_append,zmc] at h ⊢
   split at h
   ·rename_i hs; exact absurd h hs
   ·rename_i hs; rw [if_neg hs]; exact ih h
 rw [List.take_add_one,h]
 exact key _ h0
theorem pairs_snoc {l : List zp} {k : Nat} {x : zp} (h : l[k]? = some x) (h0 : (l.take k).Pairwise ndup) (hx : ∀ y ∈ l.take k, ¬ (x.client = y.client ∧ x.time = y.time)) : (l.take (k + 1)).Pairwise ndup := by
 rw [List.take_add_one,h]
 refine List.pairwise_append.2 ⟨h0,by simp,fun a ha b hb => ?_⟩
 simp at hb; subst hb
 exact fun e => hx a ha ⟨e.1.symm,e.2.symm⟩
theorem pairs_not {l : List zp} {k j : Nat} {x y : zp} (h : l[k]? = some x) (hy : l[j]? = some y) (hj : j < k) (hxy : x.client = y.client ∧ x.time = y.time) : ¬ l.Pairwise ndup := by
 intro hp
 rw [List.pairwise_iff_getElem] at hp
 obtain ⟨hk,rfl⟩ := List.getElem?_eq_some_iff.1 h
 obtain ⟨hj',rfl⟩ := List.getElem?_eq_some_iff.1 hy
 exact hp j k hj' hk hj ⟨hxy.1.symm,hxy.2.symm⟩
def okO (o : TOp) : Prop := o.topic.length ≤ 1073741824 ∧ o.group.length ≤ 1073741824 ∧ o.recs.length ≤ 1073741824 ∧ ∀ r ∈ o.recs,r.length ≤ 1073741824
def okB (b : List zp) : Prop := b.length ≤ 1073741824 ∧ ∀ x ∈ b,okO x.op
def numR (most : Nat) : Nat → Nat → List UInt8 → Except Int (Nat × List UInt8)
 | _,_, [] => .error 10
 | i,acc,c :: r =>
  if i = 9 ∧ c.toNat > 1 then .error 11
  else if c.toNat < 128 then (if (i > 0 ∧ c.toNat = 0) ∨ acc + c.toNat * 128 ^ i > most then .error 11 else .ok (acc + c.toNat * 128 ^ i,r))
  else numR most (i + 1) (acc + c.toNat % 128 * 128 ^ i) r
def zrD (x : zp) : List UInt8 := zcR x.client.toNat ++ (zcR x.time.toNat ++ opB x.op)
def zgJ (x : zp) : List UInt8 := if zaz x = 0 then zrD x else []
def signB (k d : Int) : List UInt8 := zcR k.toNat ++ zcR d.toNat
def zmF (k d : Int) : List UInt8 := if zak k d = 0 then signB k d else []
def oneB (x : zp) : List UInt8 := zoH (zrD x) ++ signB x.key x.dig
def zjx (l : List zp) : List UInt8 := (l.map oneB).flatten
def zkb (l : List zp) : List UInt8 := zcR l.length ++ zjx l
def zfC (l : List zp) : List UInt8 := if zY l = 0 then zkb l else []
theorem req_ok {x : zp} (h : zaz x = 0) : 0 ≤ x.client ∧ x.client < 8 ∧ 1 ≤ x.time ∧ x.time ≤ 9007199254740992 ∧ zbp zdZ x.op = 0 := by
 unfold zaz at h
 split at h
 ·cases h
 ·refine ⟨by omega,by omega,by omega,by omega,h⟩
theorem sign_ok {k d : Int} (h : zak k d = 0) : 0 ≤ k ∧ k < 21 ∧ 1 ≤ d ∧ d ≤ 9007199254740992 := by
 unfold zak at h
 split at h
 ·cases h
 ·omega
theorem errs_mem {l : List zp} (h : zmc l = 0) : ∀ x ∈ l,errF x = 0 := by
 induction l with
 | nil => simp
 | cons s r ih =>
  simp only [zmc] at h
  split at h
  ·rename_i hs; exact absurd h hs
  ·rename_i hs
   intro x hx
   rcases List.mem_cons.1 hx with rfl | hx
   ·simpa using hs
   ·exact ih h x hx
theorem zwu {l : List zp} (h : zY l = 0) : l.length ≤ 4 ∧ (∀ x ∈ l,zaz x = 0 ∧ zak x.key x.dig = 0) ∧ l.Pairwise ndup := by
 unfold zY at h
 split at h
 ·cases h
 ·split at h
  ·rename_i h1; exact absurd h h1
  ·split at h
   ·rename_i h0 h1 h2
    refine ⟨by omega,fun x hx => ?_,h2⟩
    have := errs_mem (by simpa using h1) x hx
    unfold errF at this
    split at this
    ·rename_i h3; exact absurd this h3
    ·rename_i h3; exact ⟨by simpa using h3,this⟩
   ·cases h
theorem opB_len {o : TOp} (h : zkr o ≤ 268435456) (hc : zbp zdZ o = 0) : (opB o).length ≤ zkr o + 60 := by
 obtain ⟨k0,k4,o0,o1,_⟩ := check_ok hc
 have hr := zkz o.recs
 have hrb := znn o.recs (by unfold zkr at h; omega) o.recs.length
 rw [List.take_length] at hrb
 unfold zkr at h ⊢
 have n1 := zF (n := o.kind.toNat) (by omega)
 have n2 := zF (n := o.topic.length) (by omega)
 have n3 := zF (n := o.group.length) (by omega)
 have n4 := zF (n := o.offset.toNat) (by omega)
 have n5 := zF (n := o.recs.length) (by omega)
 have hk : o.kind = 0 ∨ o.kind = 1 ∨ o.kind = 2 ∨ o.kind = 3 ∨ o.kind = 4 := by omega
 rcases hk with hk | hk | hk | hk | hk
 ·rw [opB_0 hk]; omega
 ·rw [opB_1 hk]; simp only [List.length_append]; omega
 ·rw [opB_2 hk]; simp only [List.length_append]; omega
 ·rw [opB_3 hk]; simp only [List.length_append]; omega
 ·rw [opB_4 hk]; simp only [List.length_append]; omega
theorem zrC {x : zp} (h : zkr x.op ≤ 268435456) (hc : zaz x = 0) : (zrD x).length ≤ zkr x.op + 80 := by
 obtain ⟨c0,c8,t1,t2,ho⟩ := req_ok hc
 have := opB_len h ho
 have n1 := zF (n := x.client.toNat) (by omega)
 have n2 := zF (n := x.time.toNat) (by omega)
 simp only [zrD,List.length_append]; omega
theorem signB_len {k d : Int} (h : zak k d = 0) : (signB k d).length ≤ 20 := by
 obtain ⟨k0,k1,d0,d1⟩ := sign_ok h
 have n1 := zF (n := k.toNat) (by omega)
 have n2 := zF (n := d.toNat) (by omega)
 simp only [signB,List.length_append]; omega
theorem oneB_len {x : zp} (h : zkr x.op ≤ 20971520) (h1 : zaz x = 0) (h2 : zak x.key x.dig = 0) : (oneB x).length ≤ 20971700 := by
 have a := zrC (by omega) h1
 have b := signB_len h2
 have c := zfN (x := zrD x) (by omega)
 simp only [oneB,List.length_append]; omega
theorem ztg {l : List zp} (h : ∀ x ∈ l,zkr x.op ≤ 20971520) (hc : zY l = 0) (k : Nat) : (zjx (l.take k)).length ≤ 83886800 := by
 obtain ⟨h4,hm,_⟩ := zwu hc
 have key : ∀ (m : List zp),(∀ x ∈ m,x ∈ l) → (zjx m).length ≤ m.length * 20971700 := by
  intro m
  induction m with
  | nil => intro _; simp [zjx]
  | cons x m ih =>
   intro hsub
   have h1 := ih fun y hy => hsub y (by simp [hy])
   have hx := hsub x (by simp)
   have h2 := oneB_len (h x hx) (hm x hx).1 (hm x hx).2
   simp only [zjx,List.map_cons,List.flatten_cons,List.length_append,List.length_cons] at h1 ⊢
   omega
 have := key (l.take k) fun x hx => List.mem_of_mem_take hx
 have h5 : (l.take k).length ≤ 4 := by rw [List.length_take]; omega
 have h6 : (l.take k).length * 20971700 ≤ 4 * 20971700 := Nat.mul_le_mul_right _ h5
 omega
theorem batchBs_snoc {l : List zp} {k : Nat} {x : zp} (h : l[k]? = some x) : zjx (l.take (k + 1)) = zjx (l.take k) ++ oneB x := by
 rw [List.take_add_one,h]; simp [zjx]
theorem reqBytes_len {x : zp} (h : zkr x.op ≤ 20971520) : (zgJ x).length ≤ 20971600 := by
 unfold zgJ
 split
 ·rename_i hc; have := zrC (by omega) hc; omega
 ·simp
theorem znv {l : List zp} (h : ∀ x ∈ l,zkr x.op ≤ 20971520) : (zfC l).length ≤ 83886900 := by
 unfold zfC
 split
 ·rename_i hc
  have := ztg h hc l.length
  rw [List.take_length] at this
  have h4 := (zwu hc).1
  have n1 := zF (n := l.length) (by omega)
  simp only [zkb,List.length_append]; omega
 ·simp
def zhS : Nat → Nat → Nat → Nat
 | 0,k,_ => k
 | f + 1,k,n => if k < n - k then zhS f (k * 2) n else k
def zm (n : Nat) : Nat := if n < 2 then 0 else zhS n 1 n
theorem splitA_lt : ∀ (f k n : Nat), 1 ≤ k → k < n → 1 ≤ zhS f k n ∧ zhS f k n < n
 | 0,k,n,h1,h2 => ⟨h1,h2⟩
 | f + 1,k,n,h1,h2 => by
  simp only [zhS]
  split
  ·exact splitA_lt f (k * 2) n (by omega) (by omega)
  ·exact ⟨h1,h2⟩
theorem zcK {n : Nat} (h : 2 ≤ n) : 1 ≤ zm n ∧ zm n < n := by
 rw [zm,if_neg (by omega)]
 exact splitA_lt n 1 n (by omega) (by omega)
theorem zku : ∀ (f k n : Nat), ¬ k < n - k → zhS f k n = k
 | 0,_,_,_ => rfl
 | f + 1,k,n,h => by rw [zhS,if_neg h]
theorem znI : ∀ (f k n : Nat), 1 ≤ k → n < k + f → k < n - k → zhS f k n = zhS f (k * 2) n
 | 0,k,n,_,h,h2 => by omega
 | f + 1,k,n,h1,h,h2 => by
  rw [zhS,if_pos h2]
  by_cases h3 : k * 2 < n - k * 2
  ·have e : zhS (f + 1) (k * 2) n = zhS f (k * 2 * 2) n := by rw [zhS,if_pos h3]
   rw [e]
   exact znI f (k * 2) n (by omega) (by omega) h3
  ·rw [zku f _ _ h3,zku (f + 1) _ _ h3]
def lenA : Nat → Nat → Nat → Nat
 | 0,_,_ => 0
 | f + 1,i,n => if n ≤ 1 then 0 else if i < zm n then lenA f i (zm n) + 1 else lenA f (i - zm n) (n - zm n) + 1
theorem zoR : ∀ (f g i n : Nat),n ≤ f → n ≤ g → lenA f i n = lenA g i n
 | 0,g,i,n,h1,h2 => by
  cases g with
  | zero => rfl
  | succ g => simp only [lenA]; rw [if_pos (by omega)]
 | f + 1, 0,i,n,h1,h2 => by simp only [lenA]; rw [if_pos (by omega)]
 | f + 1,g + 1,i,n,h1,h2 => by
  simp only [lenA]
  by_cases h : n ≤ 1
  ·rw [if_pos h,if_pos h]
  ·have hs := zcK (n := n) (by omega)
   rw [if_neg h,if_neg h,zoR f g i (zm n) (by omega) (by omega),zoR f g (i - zm n) (n - zm n) (by omega) (by omega)]
def zfB (i n : Nat) : Nat := lenA n i n
theorem zsn {i n : Nat} (h : n ≤ 1) : zfB i n = 0 := by
 unfold zfB
 cases n with
 | zero => rfl
 | succ n => simp only [lenA]; rw [if_pos h]
theorem zoQ {i n : Nat} (h : 2 ≤ n) : zfB i n = (if i < zm n then zfB i (zm n) else zfB (i - zm n) (n - zm n)) + 1 := by
 have hs := zcK h
 unfold zfB
 obtain ⟨m,rfl⟩ : ∃ m,n = m + 1 := ⟨n - 1,by omega⟩
 have e : lenA (m + 1) i (m + 1) = if i < zm (m + 1) then lenA m i (zm (m + 1)) + 1 else lenA m (i - zm (m + 1)) (m + 1 - zm (m + 1)) + 1 := by
  rw [lenA,if_neg (by omega)]
 rw [e,zoR m (zm (m + 1)) i _ (by omega) (by omega),zoR m (m + 1 - zm (m + 1)) (i - zm (m + 1)) _ (by omega) (by omega)]
 split <;> rfl
theorem zux (i n : Nat) : zfB i n ≤ n := by
 induction n using Nat.strongRecOn generalizing i with
 | _ n ih =>
  by_cases h : n ≤ 1
  ·rw [zsn h]; omega
  ·have hs := zcK (n := n) (by omega)
   rw [zoQ (by omega)]
   split
   ·have := ih (zm n) hs.2 i; omega
   ·have := ih (n - zm n) (by omega) (i - zm n); omega
def znW (b : List UInt8) : List UInt8 := 0 :: b
def zkA (l r : Int) : List UInt8 := 1 :: (zcR l.toNat ++ zcR r.toNat)
def zjp : Nat → List (List UInt8) → List (List UInt8) → Int × List (List UInt8)
 | _,L, [] => (zdA L [2],zeG L [2])
 | _,L, [x] => (zdA L (znW x),zeG L (znW x))
 | 0,L,_ => (0,L)
 | f + 1,L,l =>
  let a := zjp f L (l.take (zm l.length))
  let b := zjp f a.2 (l.drop (zm l.length))
  (zdA b.2 (zkA a.1 b.1),zeG b.2 (zkA a.1 b.1))
def rootF (L l : List (List UInt8)) : Int × List (List UInt8) := zjp l.length L l
theorem zmG : ∀ (f g : Nat) (L l : List (List UInt8)),l.length ≤ f → l.length ≤ g → zjp f L l = zjp g L l
 | f,g,L, [],_,_ => by cases f <;> cases g <;> rfl
 | f,g,L, [x],_,_ => by cases f <;> cases g <;> rfl
 | 0,_,L,x :: y :: r,h,_ => by simp at h
 | _, 0,L,x :: y :: r,_,h => by simp at h
 | f + 1,g + 1,L,x :: y :: r,h1,h2 => by
  have hs := zcK (n := (x :: y :: r).length) (by simp)
  have e := zmG f g L ((x :: y :: r).take (zm (x :: y :: r).length)) (by rw [List.length_take]; omega) (by rw [List.length_take]; omega)
  simp only [zjp,e]
  rw [zmG f g (zjp g L ((x :: y :: r).take (zm (x :: y :: r).length))).2 ((x :: y :: r).drop (zm (x :: y :: r).length)) (by rw [List.length_drop]; omega) (by rw [List.length_drop]; omega)]
theorem zrY {L l : List (List UInt8)} (h : 2 ≤ l.length) : rootF L l = (zdA (rootF (rootF L (l.take (zm l.length))).2 (l.drop (zm l.length))).2 (zkA (rootF L (l.take (zm l.length))).1 (rootF (rootF L (l.take (zm l.length))).2 (l.drop (zm l.length))).1),
  zeG (rootF (rootF L (l.take (zm l.length))).2 (l.drop (zm l.length))).2 (zkA (rootF L (l.take (zm l.length))).1 (rootF (rootF L (l.take (zm l.length))).2 (l.drop (zm l.length))).1)) := by
 have hs := zcK h
 have h1 : (l.take (zm l.length)).length = zm l.length := by rw [List.length_take]; omega
 have h2 : (l.drop (zm l.length)).length = l.length - zm l.length := List.length_drop
 obtain ⟨m,hm⟩ : ∃ m,l.length = m + 1 := ⟨l.length - 1,by omega⟩
 have e : ∀ l : List (List UInt8), 2 ≤ l.length → ∀ m,zjp (m + 1) L l = (zdA (zjp m (zjp m L (l.take (zm l.length))).2 (l.drop (zm l.length))).2 (zkA (zjp m L (l.take (zm l.length))).1 (zjp m (zjp m L (l.take (zm l.length))).2 (l.drop (zm l.length))).1),zeG (zjp m (zjp m L (l.take (zm l.length))).2 (l.drop (zm l.length))).2 (zkA (zjp m L (l.take (zm l.length))).1 (zjp m (zjp m L (l.take (zm l.length))).2 (l.drop (zm l.length))).1)) := by
  intro l hl m
  match l,hl with
  | x :: y :: r,_ => simp only [zjp]
 have f1 := zmG m (l.take (zm l.length)).length L (l.take (zm l.length)) (by omega) (Nat.le_refl _)
 have f2 := fun L' => zmG m (l.drop (zm l.length)).length L' (l.drop (zm l.length)) (by omega) (Nat.le_refl _)
 have f0 : zjp l.length L l = zjp (m + 1) L l := by rw [hm]
 unfold rootF
 rw [f0,e l h m,f1,f2]
theorem rootF_0 (L : List (List UInt8)) : rootF L [] = (zdA L [2],zeG L [2]) := rfl
theorem rootF_1 (L : List (List UInt8)) (x : List UInt8) : rootF L [x] = (zdA L (znW x),zeG L (znW x)) := rfl
def zfG : Nat → List (List UInt8) → List UInt8 → Nat → Nat → List Int → Int × Bool
 | 0,_,_,_,_,_ => (0,false)
 | f + 1,L,b,i,n,p =>
  if n = 1 then (zjH (zdc L (znW b)),(zdc L (znW b)).isSome) else
  let last := p.getD (p.length - 1) 0
  let q := p.take (p.length - 1)
  if i < zm n then
   let d := zfG f L b i (zm n) q
   if d.2 = true then (zjH (zdc L (zkA d.1 last)),(zdc L (zkA d.1 last)).isSome) else (0,false)
  else
   let d := zfG f L b (i - zm n) (n - zm n) q
   if d.2 = true then (zjH (zdc L (zkA last d.1)),(zdc L (zkA last d.1)).isSome) else (0,false)
def zks (L : List (List UInt8)) (root : Int) (b : List UInt8) (i n : Int) (p : List Int) : Bool :=
 if i < 0 ∨ i ≥ n ∨ (p.length : Int) ≠ zfB i.toNat n.toNat then false else (zfG n.toNat L b i.toNat n.toNat p).2 && ((zfG n.toNat L b i.toNat n.toNat p).1 == root)
def zbh : Nat → List (List UInt8) → Nat → List (List UInt8) → List Int × List (List UInt8)
 | 0,L,_,_ => ([],L)
 | f + 1,L,i,l =>
  if l.length ≤ 1 then ([],L) else
  let k := zm l.length
  if i < k then
   let p := zbh f L i (l.take k)
   let r := rootF p.2 (l.drop k)
   (p.1 ++ [r.1],r.2)
  else
   let p := zbh f L (i - k) (l.drop k)
   let r := rootF p.2 (l.take k)
   (p.1 ++ [r.1],r.2)
end Go.AW
