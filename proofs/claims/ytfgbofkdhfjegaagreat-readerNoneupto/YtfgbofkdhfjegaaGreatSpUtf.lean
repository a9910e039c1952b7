/- Runes: the first rune of a text, as the document has it and as Go's 'range' has it; names. No program in sight. -/
import Derived.Test.YtfgbofkdhfjegaaGreatCl1
import GoSem.Core.Utf8
import Derived.Test.YtfgbofkdhfjegaaGreatSpTab
set_option linter.all false
set_option maxRecDepth 100000
namespace Go.AW
def at8 (s : List UInt8) (i : Nat) : Nat := (s[i]?.getD 0).toNat
def zlI (c : Nat) : Nat := if c < 128 then 1 else if 194 ≤ c ∧ c < 224 then 2 else if 224 ≤ c ∧ c < 240 then 3 else if 240 ≤ c ∧ c < 245 then 4 else 0
def zgK (s : List UInt8) (z : Nat) : Nat → Nat
 | 0 => at8 s 0 % 2 ^ (7 - z)
 | i + 1 => zgK s z i * 64 + at8 s (i + 1) % 64
def zqC (s : List UInt8) (i : Nat) : Bool := decide (128 ≤ at8 s i ∧ at8 s i < 192)
def zfI (z : Nat) : Nat := if z = 2 then 128 else if z = 3 then 2048 else if z = 4 then 65536 else 0
def zjL (s : List UInt8) : Nat × Nat :=
 let z := zlI (at8 s 0)
 if z = 0 ∨ z > s.length then (0, 0)
 else if z = 1 then (at8 s 0, 1)
 else if (∀ i,i < z → 1 ≤ i → zqC s i = true) then
  if zgK s z (z - 1) < zfI z ∨ zgK s z (z - 1) > 1114111 ∨ (55296 ≤ zgK s z (z - 1) ∧ zgK s z (z - 1) < 57344) then (0, 0) else (zgK s z (z - 1),z)
 else (0, 0)
theorem ztn (s : List UInt8) (i : Nat) : at8 s i < 256 := (s[i]?.getD 0).toNat_lt
theorem zlr (s : List UInt8) (p i : Nat) : at8 (s.drop p) i = at8 s (p + i) := by simp [at8,List.getElem?_drop]
theorem get_at8 (s : List UInt8) (i : Nat) : ((ByteArray.mk s.toArray).get! i).toNat = at8 s i := by
 simp only [ByteArray.get!,at8]
 rw [getElem!_def]
 simp only [List.getElem?_toArray]
 cases s[i]? <;> rfl
theorem all2 (p : Nat → Bool) : (∀ i,i < 2 → 1 ≤ i → p i = true) ↔ p 1 = true := ⟨fun h => h 1 (by omega) (by omega),fun h i h1 h2 => by
 obtain rfl : i = 1 := by omega
 exact h⟩
theorem all3 (p : Nat → Bool) : (∀ i,i < 3 → 1 ≤ i → p i = true) ↔ p 1 = true ∧ p 2 = true := ⟨fun h => ⟨h 1 (by omega) (by omega),h 2 (by omega) (by omega)⟩,fun h i h1 h2 => by
 have : i = 1 ∨ i = 2 := by omega
 rcases this with rfl | rfl
 ·exact h.1
 ·exact h.2⟩
theorem all4 (p : Nat → Bool) : (∀ i,i < 4 → 1 ≤ i → p i = true) ↔ p 1 = true ∧ p 2 = true ∧ p 3 = true := ⟨fun h => ⟨h 1 (by omega) (by omega),h 2 (by omega) (by omega),h 3 (by omega) (by omega)⟩,fun h i h1 h2 => by
 have : i = 1 ∨ i = 2 ∨ i = 3 := by omega
 rcases this with rfl | rfl | rfl
 ·exact h.1
 ·exact h.2.1
 ·exact h.2.2⟩
def zpg (s : List UInt8) : Nat × Nat := if (zjL s).2 = 0 then (65533, 1) else zjL s
theorem decode_eq (s : List UInt8) (p : Nat) (hp : p < s.length) : Utf8.decode ⟨s.toArray⟩ p = zpg (s.drop p) := by
 have hsz : (ByteArray.mk s.toArray).size = s.length := by simp [ByteArray.size]
 have hl : (s.drop p).length = s.length - p := by simp
 unfold Utf8.decode
 simp only [get_at8,hsz,Nat.add_zero]
 have h0 := ztn s p
 have h1 := ztn s (p + 1)
 have h2 := ztn s (p + 2)
 have h3 := ztn s (p + 3)
 simp only [zpg,zjL,zlI,hl,zlr,Nat.add_zero]
 generalize e0 : at8 s p = b0 at *
 generalize e1 : at8 s (p + 1) = b1 at *
 generalize e2 : at8 s (p + 2) = b2 at *
 generalize e3 : at8 s (p + 3) = b3 at *
 have hc1 : zqC (s.drop p) 1 = decide (128 ≤ b1 ∧ b1 < 192) := by simp only [zqC,zlr,e1]
 have hc2 : zqC (s.drop p) 2 = decide (128 ≤ b2 ∧ b2 < 192) := by simp only [zqC,zlr,e2]
 have hc3 : zqC (s.drop p) 3 = decide (128 ≤ b3 ∧ b3 < 192) := by simp only [zqC,zlr,e3]
 have p2 : zgK (s.drop p) 2 1 = b0 % 32 * 64 + b1 % 64 := by simp only [zgK,zlr,Nat.add_zero,e0,e1]
 have p3 : zgK (s.drop p) 3 2 = b0 % 16 * 4096 + b1 % 64 * 64 + b2 % 64 := by simp only [zgK,zlr,Nat.add_zero,e0,e1,e2]; omega
 have p4 : zgK (s.drop p) 4 3 = b0 % 8 * 262144 + b1 % 64 * 4096 + b2 % 64 * 64 + b3 % 64 := by simp only [zgK,zlr,Nat.add_zero,e0,e1,e2,e3]; omega
 have c1 : (b1 / 64 == 2) = decide (128 ≤ b1 ∧ b1 < 192) := by rw [Bool.eq_iff_iff]; simp; omega
 have c2 : (b2 / 64 == 2) = decide (128 ≤ b2 ∧ b2 < 192) := by rw [Bool.eq_iff_iff]; simp; omega
 have c3 : (b3 / 64 == 2) = decide (128 ≤ b3 ∧ b3 < 192) := by rw [Bool.eq_iff_iff]; simp; omega
 simp only [c1,c2,c3]
 by_cases a1 : b0 < 128
 ·have : ¬ (1 > s.length - p) := by omega
  simp [a1,this]
 by_cases a2 : 194 ≤ b0 ∧ b0 < 224
 ·have q1 : (b0 / 32 == 6) = true := by simp; omega
  have q2 : (b0 / 16 == 14) = false := by simp; omega
  have q3 : (b0 / 8 == 30) = false := by simp; omega
  simp only [a1,a2,q1,q2,q3,if_false,if_true,all2,hc1,p2,zfI]
  by_cases l1 : p + 1 < s.length
  ·have : ¬ (2 > s.length - p) := by omega
   by_cases k1 : 128 ≤ b1 ∧ b1 < 192
   ·have g1 : 128 ≤ b0 % 32 * 64 + b1 % 64 := by omega
    have g2 : ¬ (b0 % 32 * 64 + b1 % 64 < 128 ∨ b0 % 32 * 64 + b1 % 64 > 1114111 ∨ 55296 ≤ b0 % 32 * 64 + b1 % 64 ∧ b0 % 32 * 64 + b1 % 64 < 57344) := by omega
    simp [l1,this,k1,g1,g2,all2,hc1,p2,zfI,Utf8.runeError]
   ·simp [l1,this,k1,all2,hc1,p2,zfI,Utf8.runeError]
  ·have : 2 > s.length - p := by omega
   simp [l1,this,all2,hc1,p2,zfI,Utf8.runeError]
 by_cases a3 : 224 ≤ b0 ∧ b0 < 240
 ·have q1 : (b0 / 32 == 6) = false := by simp; omega
  have q2 : (b0 / 16 == 14) = true := by simp; omega
  have q3 : (b0 / 8 == 30) = false := by simp; omega
  simp only [a1,a2,a3,q1,q2,q3,if_false,if_true,all3,hc1,hc2,p3,zfI]
  by_cases l1 : p + 2 < s.length
  ·have : ¬ (3 > s.length - p) := by omega
   have l2 : p + 1 < s.length := by omega
   by_cases k1 : 128 ≤ b1 ∧ b1 < 192
   ·by_cases k2 : 128 ≤ b2 ∧ b2 < 192
    ·obtain ⟨v,hv⟩ : ∃ v,v = b0 % 16 * 4096 + b1 % 64 * 64 + b2 % 64 := ⟨_,rfl⟩
     simp only [← hv]
     rw [← hv] at p3
     have hv' : v < 65536 := by omega
     by_cases g : v < 2048 ∨ 55296 ≤ v ∧ v < 57344
     ·have g1 : (decide (v ≥ 2048) && Utf8.valid (v : Int)) = false := by simp [Utf8.valid]; omega
      have g2 : v < 2048 ∨ v > 1114111 ∨ 55296 ≤ v ∧ v < 57344 := by omega
      simp [l1,l2,this,k1,k2,g2,g1,all3,hc1,hc2,p3,zfI,Utf8.runeError]
     ·have g1 : (decide (v ≥ 2048) && Utf8.valid (v : Int)) = true := by simp [Utf8.valid]; omega
      have g2 : ¬ (v < 2048 ∨ v > 1114111 ∨ 55296 ≤ v ∧ v < 57344) := by omega
      rw [g1]
      simp [l1,l2,this,k1,k2,g2,all3,hc1,hc2,p3,zfI,Utf8.runeError]
    ·simp [l1,l2,this,k1,k2,all3,hc1,hc2,p3,zfI,Utf8.runeError]
   ·simp [l1,l2,this,k1,all3,hc1,hc2,p3,zfI,Utf8.runeError]
  ·have : 3 > s.length - p := by omega
   simp [l1,this,all3,hc1,hc2,p3,zfI,Utf8.runeError]
 by_cases a4 : 240 ≤ b0 ∧ b0 < 245
 ·have q1 : (b0 / 32 == 6) = false := by simp; omega
  have q2 : (b0 / 16 == 14) = false := by simp; omega
  have q3 : (b0 / 8 == 30) = true := by simp; omega
  simp only [a1,a2,a3,a4,q1,q2,q3,if_false,if_true,all4,hc1,hc2,hc3,p4,zfI]
  by_cases l1 : p + 3 < s.length
  ·have : ¬ (4 > s.length - p) := by omega
   have l2 : p + 1 < s.length := by omega
   have l3 : p + 2 < s.length := by omega
   by_cases k1 : 128 ≤ b1 ∧ b1 < 192
   ·by_cases k2 : 128 ≤ b2 ∧ b2 < 192
    ·by_cases k3 : 128 ≤ b3 ∧ b3 < 192
     ·obtain ⟨v,hv⟩ : ∃ v,v = b0 % 8 * 262144 + b1 % 64 * 4096 + b2 % 64 * 64 + b3 % 64 := ⟨_,rfl⟩
      simp only [← hv]
      rw [← hv] at p4
      by_cases g : v < 65536 ∨ v > 1114111
      ·have g1 : (decide (v ≥ 65536) && Utf8.valid (v : Int)) = false := by simp [Utf8.valid]; omega
       have g2 : v < 65536 ∨ v > 1114111 ∨ 55296 ≤ v ∧ v < 57344 := by omega
       rw [g1]
       simp [l1,l2,l3,this,k1,k2,k3,g2,all4,hc1,hc2,hc3,p4,zfI,Utf8.runeError]
      ·have g1 : (decide (v ≥ 65536) && Utf8.valid (v : Int)) = true := by simp [Utf8.valid]; omega
       have g2 : ¬ (v < 65536 ∨ v > 1114111 ∨ 55296 ≤ v ∧ v < 57344) := by omega
       rw [g1]
       simp [l1,l2,l3,this,k1,k2,k3,g2,all4,hc1,hc2,hc3,p4,zfI,Utf8.runeError]
     ·simp [l1,l2,l3,this,k1,k2,k3,all4,hc1,hc2,hc3,p4,zfI,Utf8.runeError]
    ·simp [l1,l2,l3,this,k1,k2,all4,hc1,hc2,hc3,p4,zfI,Utf8.runeError]
   ·simp [l1,l2,l3,this,k1,all4,hc1,hc2,hc3,p4,zfI,Utf8.runeError]
  ·have : 4 > s.length - p := by omega
   simp [l1,this,all4,hc1,hc2,hc3,p4,zfI,Utf8.runeError]
 ·have q2 : (b0 / 16 == 14) = false := by simp; omega
  simp only [a1,a2,a3,a4,q2,if_false,if_true]
  by_cases q : b0 / 32 = 6
  ·have h192 : b0 = 192 ∨ b0 = 193 := by omega
   have q3 : (b0 / 8 == 30) = false := by simp; omega
   have g : ¬ (b0 % 32 * 64 + b1 % 64 ≥ 128) := by omega
   simp [q,q3,g,Utf8.runeError]
  ·by_cases q' : b0 / 8 = 30
   ·have g : ¬ ((b0 % 8 * 262144 + b1 % 64 * 4096 + b2 % 64 * 64 + b3 % 64) ≤ 1114111) := by omega
    obtain ⟨v,hv⟩ : ∃ v,v = b0 % 8 * 262144 + b1 % 64 * 4096 + b2 % 64 * 64 + b3 % 64 := ⟨_,rfl⟩
    rw [← hv] at g
    simp only [← hv]
    have g1 : Utf8.valid (v : Int) = false := by simp [Utf8.valid]; omega
    simp [q,q',g1,Utf8.runeError]
   ·simp [q,q',Utf8.runeError]
theorem zkn (s : List UInt8) : (zjL s).2 ≤ s.length ∧ (zjL s).2 ≤ 4 ∧ (zjL s).1 ≤ 1114111 := by
 have h0 := ztn s 0
 have hz : zlI (at8 s 0) ≤ 4 := by unfold zlI; split <;> (try split) <;> (try split) <;> (try split) <;> omega
 simp only [zjL]
 split
 ·simp
 ·rename_i h
  split
  ·rename_i h1; simp only []; omega
  ·split
   ·split
    ·simp
    ·simp only []; omega
   ·simp
theorem goDec_width (s : List UInt8) (h : s ≠ []) : 1 ≤ (zpg s).2 ∧ (zpg s).2 ≤ s.length ∧ (zpg s).1 ≤ 1114111 := by
 have h1 := zkn s
 have h2 : 0 < s.length := List.length_pos_iff.2 h
 unfold zpg
 split
 ·simp; omega
 ·omega
def badF (v : Nat) : Bool := decide (v < 33 ∨ (127 ≤ v ∧ v ≤ 159) ∨ v = 47 ∨ v = 65533)
def zdy : Nat → List UInt8 → Option Nat
 | 0,_ => none
 | f + 1,s => if s = [] then some 0 else if (zjL s).2 = 0 ∨ badF (zjL s).1 = true then none else (zdy f (s.drop (zjL s).2)).map (· + 1)
def zha (s : List UInt8) : Nat := match zdy (s.length + 1) s with
 | some n => if n > 16 then 0 else n
 | none => 0
def zdZ (s : List UInt8) : Bool := decide (0 < zha s)
theorem goDec_bad (s : List UInt8) : badF (zpg s).1 = (decide ((zjL s).2 = 0) || badF (zjL s).1) := by
 unfold zpg
 split
 ·rename_i h; simp [h,badF]
 ·rename_i h; simp [h]
theorem goDec_good {s : List UInt8} (h : badF (zpg s).1 = false) : zpg s = zjL s ∧ (zjL s).2 ≠ 0 ∧ badF (zjL s).1 = false := by
 rw [goDec_bad] at h
 simp at h
 exact ⟨by simp [zpg,h.1],h.1,h.2⟩
theorem zou : ∀ (f g : Nat) (s : List UInt8),s.length < f → s.length < g → zdy f s = zdy g s
 | 0,_,_,h,_ => by omega
 | _, 0,_,_,h => by omega
 | f + 1,g + 1,s,h1,h2 => by
  simp only [zdy]
  split
  ·rfl
  ·rename_i hs
   split
   ·rfl
   ·rename_i hd
    have hw := zkn s
    have : 0 < s.length := List.length_pos_iff.2 hs
    rw [zou f g _ (by simp; omega) (by simp; omega)]
def zaA (x : zq) : Int := if x.client < 0 ∨ x.client ≥ 8 ∨ x.time < 1 ∨ x.time > 9007199254740992 then 80 else zbr zdZ x.op
def zah (k d : Int) : Int := if k < 0 ∨ k ≥ 21 ∨ d < 1 ∨ d > 9007199254740992 then 81 else 0
def errF (s : zq) : Int := if zaA s ≠ 0 then zaA s else zah s.key s.dig
def zmo : List zq → Int
 | [] => 0
 | s :: r => if errF s ≠ 0 then errF s else zmo r
def ndup (a b : zq) : Prop := ¬ (a.client = b.client ∧ a.time = b.time)
instance : DecidableRel ndup := fun a b => inferInstanceAs (Decidable (¬ _))
def zV (l : List zq) : Int :=
 if l.length > 4 then 3 else if zmo l ≠ 0 then zmo l else if l.Pairwise ndup then 0 else 5
theorem zuQ {l : List zq} : ∀ {k : Nat} {x : zq},l[k]? = some x → zmo (l.take k) = 0 → errF x ≠ 0 → zmo l = errF x := by
 induction l with
 | nil => intro k x h; simp at h
 | cons s r ih =>
  intro k x h h0 hx
  cases k with
  | zero => simp at h; subst h; simp [zmo,hx]
  | succ k =>
   simp only [List.take_succ_cons,zmo] at h0 ⊢
   simp at h
   split at h0
   ·rename_i hs; exact absurd h0 hs
   ·rename_i hs; rw [if_neg hs]; exact ih h h0 hx
theorem errsF_snoc {l : List zq} {k : Nat} {x : zq} (h : l[k]? = some x) (h0 : zmo (l.take k) = 0) (hx : errF x = 0) : zmo (l.take (k + 1)) = 0 := by
 have key : ∀ (a : List zq),zmo a = 0 → zmo (a ++ [x]) = 0 := by
  intro a
  induction a with
  | nil => intro _; simp [zmo,hx]
  | cons s r ih =>
   intro h
   simp only [List.cons_append,zmo] at h ⊢
   split at h
   ·rename_i hs; exact absurd h hs
   ·rename_i hs; rw [if_neg hs]; exact ih h
 rw [List.take_add_one,h]
 exact key _ h0
theorem pairs_snoc {l : List zq} {k : Nat} {x : zq} (h : l[k]? = some x) (h0 : (l.take k).Pairwise ndup) (hx : ∀ y ∈ l.take k, ¬ (x.client = y.client ∧ x.time = y.time)) : (l.take (k + 1)).Pairwise ndup := by
 rw [List.take_add_one,h]
 refine List.pairwise_append.2 ⟨h0,by simp,fun a ha b hb => ?_⟩
 simp at hb; subst hb
 exact fun e => hx a ha ⟨e.1.symm,e.2.symm⟩
theorem pairs_not {l : List zq} {k j : Nat} {x y : zq} (h : l[k]? = some x) (hy : l[j]? = some y) (hj : j < k) (hxy : x.client = y.client ∧ x.time = y.time) : ¬ l.Pairwise ndup := by
 intro hp
 rw [List.pairwise_iff_getElem] at hp
 obtain ⟨hk,rfl⟩ := List.getElem?_eq_some_iff.1 h
 obtain ⟨hj',rfl⟩ := List.getElem?_eq_some_iff.1 hy
 exact hp j k hj' hk hj ⟨hxy.1.symm,hxy.2.symm⟩
def okO (o : TOp) : Prop := o.topic.length ≤ 1073741824 ∧ o.group.length ≤ 1073741824 ∧ o.recs.length ≤ 1073741824 ∧ ∀ r ∈ o.recs,r.length ≤ 1073741824
def okB (b : List zq) : Prop := b.length ≤ 1073741824 ∧ ∀ x ∈ b,okO x.op
def numR (most : Nat) : Nat → Nat → List UInt8 → Except Int (Nat × List UInt8)
 | _,_, [] => .error 10
 | i,acc,c :: r =>
  if i = 9 ∧ c.toNat > 1 then .error 11
  else if c.toNat < 128 then (if (i > 0 ∧ c.toNat = 0) ∨ acc + c.toNat * 128 ^ i > most then .error 11 else .ok (acc + c.toNat * 128 ^ i,r))
  else numR most (i + 1) (acc + c.toNat % 128 * 128 ^ i) r
def zrK (x : zq) : List UInt8 := zcO x.client.toNat ++ (zcO x.time.toNat ++ opB x.op)
def zhb (x : zq) : List UInt8 := if zaA x = 0 then zrK x else []
def signB (k d : Int) : List UInt8 := zcO k.toNat ++ zcO d.toNat
def zmT (k d : Int) : List UInt8 := if zah k d = 0 then signB k d else []
def oneB (x : zq) : List UInt8 := zoT (zrK x) ++ signB x.key x.dig
def zjJ (l : List zq) : List UInt8 := (l.map oneB).flatten
def zkp (l : List zq) : List UInt8 := zcO l.length ++ zjJ l
def zfA (l : List zq) : List UInt8 := if zV l = 0 then zkp l else []
theorem req_ok {x : zq} (h : zaA x = 0) : 0 ≤ x.client ∧ x.client < 8 ∧ 1 ≤ x.time ∧ x.time ≤ 9007199254740992 ∧ zbr zdZ x.op = 0 := by
 unfold zaA at h
 split at h
 ·cases h
 ·refine ⟨by omega,by omega,by omega,by omega,h⟩
theorem sign_ok {k d : Int} (h : zah k d = 0) : 0 ≤ k ∧ k < 21 ∧ 1 ≤ d ∧ d ≤ 9007199254740992 := by
 unfold zah at h
 split at h
 ·cases h
 ·omega
theorem errs_mem {l : List zq} (h : zmo l = 0) : ∀ x ∈ l,errF x = 0 := by
 induction l with
 | nil => simp
 | cons s r ih =>
  simp only [zmo] at h
  split at h
  ·rename_i hs; exact absurd h hs
  ·rename_i hs
   intro x hx
   rcases List.mem_cons.1 hx with rfl | hx
   ·simpa using hs
   ·exact ih h x hx
theorem zwD {l : List zq} (h : zV l = 0) : l.length ≤ 4 ∧ (∀ x ∈ l,zaA x = 0 ∧ zah x.key x.dig = 0) ∧ l.Pairwise ndup := by
 unfold zV at h
 split at h
 ·cases h
 ·split at h
  ·rename_i h1; exact absurd h h1
  ·split at h
   ·rename_i h0 h1 h2
    refine ⟨by omega,fun x hx => ?_,h2⟩
    have := errs_mem (by simpa using h1) x hx
    unfold errF at this
    split at this
    ·rename_i h3; exact absurd this h3
    ·rename_i h3; exact ⟨by simpa using h3,this⟩
   ·cases h
theorem opB_len {o : TOp} (h : zkF o ≤ 268435456) (hc : zbr zdZ o = 0) : (opB o).length ≤ zkF o + 60 := by
 obtain ⟨k0,k4,o0,o1,_⟩ := check_ok hc
 have hr := zkM o.recs
 have hrb := znA o.recs (by unfold zkF at h; omega) o.recs.length
 rw [List.take_length] at hrb
 unfold zkF at h ⊢
 have n1 := zE (n := o.kind.toNat) (by omega)
 have n2 := zE (n := o.topic.length) (by omega)
 have n3 := zE (n := o.group.length) (by omega)
 have n4 := zE (n := o.offset.toNat) (by omega)
 have n5 := zE (n := o.recs.length) (by omega)
 have hk : o.kind = 0 ∨ o.kind = 1 ∨ o.kind = 2 ∨ o.kind = 3 ∨ o.kind = 4 := by omega
 rcases hk with hk | hk | hk | hk | hk
 ·rw [opB_0 hk]; omega
 ·rw [opB_1 hk]; simp only [List.length_append]; omega
 ·rw [opB_2 hk]; simp only [List.length_append]; omega
 ·rw [opB_3 hk]; simp only [List.length_append]; omega
 ·rw [opB_4 hk]; simp only [List.length_append]; omega
theorem zrJ {x : zq} (h : zkF x.op ≤ 268435456) (hc : zaA x = 0) : (zrK x).length ≤ zkF x.op + 80 := by
 obtain ⟨c0,c8,t1,t2,ho⟩ := req_ok hc
 have := opB_len h ho
 have n1 := zE (n := x.client.toNat) (by omega)
 have n2 := zE (n := x.time.toNat) (by omega)
 simp only [zrK,List.length_append]; omega
theorem signB_len {k d : Int} (h : zah k d = 0) : (signB k d).length ≤ 20 := by
 obtain ⟨k0,k1,d0,d1⟩ := sign_ok h
 have n1 := zE (n := k.toNat) (by omega)
 have n2 := zE (n := d.toNat) (by omega)
 simp only [signB,List.length_append]; omega
theorem oneB_len {x : zq} (h : zkF x.op ≤ 20971520) (h1 : zaA x = 0) (h2 : zah x.key x.dig = 0) : (oneB x).length ≤ 20971700 := by
 have a := zrJ (by omega) h1
 have b := signB_len h2
 have c := zgd (x := zrK x) (by omega)
 simp only [oneB,List.length_append]; omega
theorem ztm {l : List zq} (h : ∀ x ∈ l,zkF x.op ≤ 20971520) (hc : zV l = 0) (k : Nat) : (zjJ (l.take k)).length ≤ 83886800 := by
 obtain ⟨h4,hm,_⟩ := zwD hc
 have key : ∀ (m : List zq),(∀ x ∈ m,x ∈ l) → (zjJ m).length ≤ m.length * 20971700 := by
  intro m
  induction m with
  | nil => intro _; simp [zjJ]
  | cons x m ih =>
   intro hsub
   have h1 := ih fun y hy => hsub y (by simp [hy])
   have hx := hsub x (by simp)
   have h2 := oneB_len (h x hx) (hm x hx).1 (hm x hx).2
   simp only [zjJ,List.map_cons,List.flatten_cons,List.length_append,List.length_cons] at h1 ⊢
   omega
 have := key (l.take k) fun x hx => List.mem_of_mem_take hx
 have h5 : (l.take k).length ≤ 4 := by rw [List.length_take]; omega
 have h6 : (l.take k).length * 20971700 ≤ 4 * 20971700 := Nat.mul_le_mul_right _ h5
 omega
theorem batchBs_snoc {l : List zq} {k : Nat} {x : zq} (h : l[k]? = some x) : zjJ (l.take (k + 1)) = zjJ (l.take k) ++ oneB x := by
 rw [List.take_add_one,h]; simp [zjJ]
theorem reqBytes_len {x : zq} (h : zkF x.op ≤ 20971520) : (zhb x).length ≤ 20971600 := by
 unfold zhb
 split
 ·rename_i hc; have := zrJ (by omega) hc; omega
 ·simp
theorem znG {l : List zq} (h : ∀ x ∈ l,zkF x.op ≤ 20971520) : (zfA l).length ≤ 83886900 := by
 unfold zfA
 split
 ·rename_i hc
  have := ztm h hc l.length
  rw [List.take_length] at this
  have h4 := (zwD hc).1
  have n1 := zE (n := l.length) (by omega)
  simp only [zkp,List.length_append]; omega
 ·simp
def zii : Nat → Nat → Nat → Nat
 | 0,k,_ => k
 | f + 1,k,n => if k < n - k then zii f (k * 2) n else k
def zm (n : Nat) : Nat := if n < 2 then 0 else zii n 1 n
theorem splitA_lt : ∀ (f k n : Nat), 1 ≤ k → k < n → 1 ≤ zii f k n ∧ zii f k n < n
 | 0,k,n,h1,h2 => ⟨h1,h2⟩
 | f + 1,k,n,h1,h2 => by
  simp only [zii]
  split
  ·exact splitA_lt f (k * 2) n (by omega) (by omega)
  ·exact ⟨h1,h2⟩
theorem zcL {n : Nat} (h : 2 ≤ n) : 1 ≤ zm n ∧ zm n < n := by
 rw [zm,if_neg (by omega)]
 exact splitA_lt n 1 n (by omega) (by omega)
theorem zkI : ∀ (f k n : Nat), ¬ k < n - k → zii f k n = k
 | 0,_,_,_ => rfl
 | f + 1,k,n,h => by rw [zii,if_neg h]
theorem znT : ∀ (f k n : Nat), 1 ≤ k → n < k + f → k < n - k → zii f k n = zii f (k * 2) n
 | 0,k,n,_,h,h2 => by omega
 | f + 1,k,n,h1,h,h2 => by
  rw [zii,if_pos h2]
  by_cases h3 : k * 2 < n - k * 2
  ·have e : zii (f + 1) (k * 2) n = zii f (k * 2 * 2) n := by rw [zii,if_pos h3]
   rw [e]
   exact znT f (k * 2) n (by omega) (by omega) h3
  ·rw [zkI f _ _ h3,zkI (f + 1) _ _ h3]
def lenA : Nat → Nat → Nat → Nat
 | 0,_,_ => 0
 | f + 1,i,n => if n ≤ 1 then 0 else if i < zm n then lenA f i (zm n) + 1 else lenA f (i - zm n) (n - zm n) + 1
theorem zpc : ∀ (f g i n : Nat),n ≤ f → n ≤ g → lenA f i n = lenA g i n
 | 0,g,i,n,h1,h2 => by
  cases g with
  | zero => rfl
  | succ g => simp only [lenA]; rw [if_pos (by omega)]
 | f + 1, 0,i,n,h1,h2 => by simp only [lenA]; rw [if_pos (by omega)]
 | f + 1,g + 1,i,n,h1,h2 => by
  simp only [lenA]
  by_cases h : n ≤ 1
  ·rw [if_pos h,if_pos h]
  ·have hs := zcL (n := n) (by omega)
   rw [if_neg h,if_neg h,zpc f g i (zm n) (by omega) (by omega),zpc f g (i - zm n) (n - zm n) (by omega) (by omega)]
def zfx (i n : Nat) : Nat := lenA n i n
theorem zsw {i n : Nat} (h : n ≤ 1) : zfx i n = 0 := by
 unfold zfx
 cases n with
 | zero => rfl
 | succ n => simp only [lenA]; rw [if_pos h]
theorem zpb {i n : Nat} (h : 2 ≤ n) : zfx i n = (if i < zm n then zfx i (zm n) else zfx (i - zm n) (n - zm n)) + 1 := by
 have hs := zcL h
 unfold zfx
 obtain ⟨m,rfl⟩ : ∃ m,n = m + 1 := ⟨n - 1,by omega⟩
 have e : lenA (m + 1) i (m + 1) = if i < zm (m + 1) then lenA m i (zm (m + 1)) + 1 else lenA m (i - zm (m + 1)) (m + 1 - zm (m + 1)) + 1 := by
  rw [lenA,if_neg (by omega)]
 rw [e,zpc m (zm (m + 1)) i _ (by omega) (by omega),zpc m (m + 1 - zm (m + 1)) (i - zm (m + 1)) _ (by omega) (by omega)]
 split <;> rfl
theorem zuE (i n : Nat) : zfx i n ≤ n := by
 induction n using Nat.strongRecOn generalizing i with
 | _ n ih =>
  by_cases h : n ≤ 1
  ·rw [zsw h]; omega
  ·have hs := zcL (n := n) (by omega)
   rw [zpb (by omega)]
   split
   ·have := ih (zm n) hs.2 i; omega
   ·have := ih (n - zm n) (by omega) (i - zm n); omega
def zoh (b : List UInt8) : List UInt8 := 0 :: b
def zkN (l r : Int) : List UInt8 := 1 :: (zcO l.toNat ++ zcO r.toNat)
def zjs : Nat → List (List UInt8) → List (List UInt8) → Int × List (List UInt8)
 | _,L, [] => (zdw L [2],zeI L [2])
 | _,L, [x] => (zdw L (zoh x),zeI L (zoh x))
 | 0,L,_ => (0,L)
 | f + 1,L,l =>
  let a := zjs f L (l.take (zm l.length))
  let b := zjs f a.2 (l.drop (zm l.length))
  (zdw b.2 (zkN a.1 b.1),zeI b.2 (zkN a.1 b.1))
def rootF (L l : List (List UInt8)) : Int × List (List UInt8) := zjs l.length L l
theorem zmU : ∀ (f g : Nat) (L l : List (List UInt8)),l.length ≤ f → l.length ≤ g → zjs f L l = zjs g L l
 | f,g,L, [],_,_ => by cases f <;> cases g <;> rfl
 | f,g,L, [x],_,_ => by cases f <;> cases g <;> rfl
 | 0,_,L,x :: y :: r,h,_ => by simp at h
 | _, 0,L,x :: y :: r,_,h => by simp at h
 | f + 1,g + 1,L,x :: y :: r,h1,h2 => by
  have hs := zcL (n := (x :: y :: r).length) (by simp)
  have e := zmU f g L ((x :: y :: r).take (zm (x :: y :: r).length)) (by rw [List.length_take]; omega) (by rw [List.length_take]; omega)
  simp only [zjs,e]
  rw [zmU f g (zjs g L ((x :: y :: r).take (zm (x :: y :: r).length))).2 ((x :: y :: r).drop (zm (x :: y :: r).length)) (by rw [List.length_drop]; omega) (by rw [List.length_drop]; omega)]
theorem zsh {L l : List (List UInt8)} (h : 2 ≤ l.length) : rootF L l = (zdw (rootF (rootF L (l.take (zm l.length))).2 (l.drop (zm l.length))).2 (zkN (rootF L (l.take (zm l.length))).1 (rootF (rootF L (l.take (zm l.length))).2 (l.drop (zm l.length))).1),
  zeI (rootF (rootF L (l.take (zm l.length))).2 (l.drop (zm l.length))).2 (zkN (rootF L (l.take (zm l.length))).1 (rootF (rootF L (l.take (zm l.length))).2 (l.drop (zm l.length))).1)) := by
 have hs := zcL h
 have h1 : (l.take (zm l.length)).length = zm l.length := by rw [List.length_take]; omega
 have h2 : (l.drop (zm l.length)).length = l.length - zm l.length := List.length_drop
 obtain ⟨m,hm⟩ : ∃ m,l.length = m + 1 := ⟨l.length - 1,by omega⟩
 have e : ∀ l : List (List UInt8), 2 ≤ l.length → ∀ m,zjs (m + 1) L l = (zdw (zjs m (zjs m L (l.take (zm l.length))).2 (l.drop (zm l.length))).2 (zkN (zjs m L (l.take (zm l.length))).1 (zjs m (zjs m L (l.take (zm l.length))).2 (l.drop (zm l.length))).1),zeI (zjs m (zjs m L (l.take (zm l.length))).2 (l.drop (zm l.length))).2 (zkN (zjs m L (l.take (zm l.length))).1 (zjs m (zjs m L (l.take (zm l.length))).2 (l.drop (zm l.length))).1)) := by
  intro l hl m
  match l,hl with
  | x :: y :: r,_ => simp only [zjs]
 have f1 := zmU m (l.take (zm l.length)).length L (l.take (zm l.length)) (by omega) (Nat.le_refl _)
 have f2 := fun L' => zmU m (l.drop (zm l.length)).length L' (l.drop (zm l.length)) (by omega) (Nat.le_refl _)
 have f0 : zjs l.length L l = zjs (m + 1) L l := by rw [hm]
 unfold rootF
 rw [f0,e l h m,f1,f2]
theorem rootF_0 (L : List (List UInt8)) : rootF L [] = (zdw L [2],zeI L [2]) := rfl
theorem rootF_1 (L : List (List UInt8)) (x : List UInt8) : rootF L [x] = (zdw L (zoh x),zeI L (zoh x)) := rfl
def zfS : Nat → List (List UInt8) → List UInt8 → Nat → Nat → List Int → Int × Bool
 | 0,_,_,_,_,_ => (0,false)
 | f + 1,L,b,i,n,p =>
  if n = 1 then (zjU (zcW L (zoh b)),(zcW L (zoh b)).isSome) else
  let last := p.getD (p.length - 1) 0
  let q := p.take (p.length - 1)
  if i < zm n then
   let d := zfS f L b i (zm n) q
   if d.2 = true then (zjU (zcW L (zkN d.1 last)),(zcW L (zkN d.1 last)).isSome) else (0,false)
  else
   let d := zfS f L b (i - zm n) (n - zm n) q
   if d.2 = true then (zjU (zcW L (zkN last d.1)),(zcW L (zkN last d.1)).isSome) else (0,false)
def zkG (L : List (List UInt8)) (root : Int) (b : List UInt8) (i n : Int) (p : List Int) : Bool :=
 if i < 0 ∨ i ≥ n ∨ (p.length : Int) ≠ zfx i.toNat n.toNat then false else (zfS n.toNat L b i.toNat n.toNat p).2 && ((zfS n.toNat L b i.toNat n.toNat p).1 == root)
def zbh : Nat → List (List UInt8) → Nat → List (List UInt8) → List Int × List (List UInt8)
 | 0,L,_,_ => ([],L)
 | f + 1,L,i,l =>
  if l.length ≤ 1 then ([],L) else
  let k := zm l.length
  if i < k then
   let p := zbh f L i (l.take k)
   let r := rootF p.2 (l.drop k)
   (p.1 ++ [r.1],r.2)
  else
   let p := zbh f L (i - k) (l.drop k)
   let r := rootF p.2 (l.take k)
   (p.1 ++ [r.1],r.2)
end Go.AW
