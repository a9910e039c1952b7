/- Runes: the first rune of a text, as the document has it and as Go's 'range' has it; names. No program in sight. -/
import Derived.Test.YtfjommppajkpoaaGreatCl1
import GoSem.Core.Utf8
import Derived.Test.YtfjommppajkpoaaGreatSpTab
set_option linter.all false
set_option maxRecDepth 100000
namespace Go.AW
def at8 (s : List UInt8) (i : Nat) : Nat := (s[i]?.getD 0).toNat
def zkb (c : Nat) : Nat := if c < 128 then 1 else if 194 ≤ c ∧ c < 224 then 2 else if 224 ≤ c ∧ c < 240 then 3 else if 240 ≤ c ∧ c < 245 then 4 else 0
def zfo (s : List UInt8) (z : Nat) : Nat → Nat
 | 0 => at8 s 0 % 2 ^ (7 - z)
 | i + 1 => zfo s z i * 64 + at8 s (i + 1) % 64
def zph (s : List UInt8) (i : Nat) : Bool := decide (128 ≤ at8 s i ∧ at8 s i < 192)
def zeB (z : Nat) : Nat := if z = 2 then 128 else if z = 3 then 2048 else if z = 4 then 65536 else 0
def zil (s : List UInt8) : Nat × Nat :=
 let z := zkb (at8 s 0)
 if z = 0 ∨ z > s.length then (0, 0)
 else if z = 1 then (at8 s 0, 1)
 else if (∀ i,i < z → 1 ≤ i → zph s i = true) then
  if zfo s z (z - 1) < zeB z ∨ zfo s z (z - 1) > 1114111 ∨ (55296 ≤ zfo s z (z - 1) ∧ zfo s z (z - 1) < 57344) then (0, 0) else (zfo s z (z - 1),z)
 else (0, 0)
theorem zrV (s : List UInt8) (i : Nat) : at8 s i < 256 := (s[i]?.getD 0).toNat_lt
theorem zjG (s : List UInt8) (p i : Nat) : at8 (s.drop p) i = at8 s (p + i) := by simp [at8,List.getElem?_drop]
theorem get_at8 (s : List UInt8) (i : Nat) : ((ByteArray.mk s.toArray).get! i).toNat = at8 s i := by
 simp only [ByteArray.get!,at8]
 rw [getElem!_def]
 simp only [List.getElem?_toArray]
 cases s[i]? <;> rfl
theorem all2 (p : Nat → Bool) : (∀ i,i < 2 → 1 ≤ i → p i = true) ↔ p 1 = true := ⟨fun h => h 1 (by omega) (by omega),fun h i h1 h2 => by
 obtain rfl : i = 1 := by omega
 exact h⟩
theorem all3 (p : Nat → Bool) : (∀ i,i < 3 → 1 ≤ i → p i = true) ↔ p 1 = true ∧ p 2 = true := ⟨fun h => ⟨h 1 (by omega) (by omega),h 2 (by omega) (by omega)⟩,fun h i h1 h2 => by
 have : i = 1 ∨ i = 2 := by omega
 rcases this with rfl | rfl
 ·exact h.1
 ·exact h.2⟩
theorem all4 (p : Nat → Bool) : (∀ i,i < 4 → 1 ≤ i → p i = true) ↔ p 1 = true ∧ p 2 = true ∧ p 3 = true := ⟨fun h => ⟨h 1 (by omega) (by omega),h 2 (by omega) (by omega),h 3 (by omega) (by omega)⟩,fun h i h1 h2 => by
 have : i = 1 ∨ i = 2 ∨ i = 3 := by omega
 rcases this with rfl | rfl | rfl
 ·exact h.1
 ·exact h.2.1
 ·exact h.2.2⟩
def znB (s : List UInt8) : Nat × Nat := if (zil s).2 = 0 then (65533, 1) else zil s
theorem decode_eq (s : List UInt8) (p : Nat) (hp : p < s.length) : Utf8.decode ⟨s.toArray⟩ p = znB (s.drop p) := by
 have hsz : (ByteArray.mk s.toArray).size = s.length := by simp [ByteArray.size]
 have hl : (s.drop p).length = s.length - p := by simp
 unfold Utf8.decode
 simp only [get_at8,hsz,Nat.add_zero]
 have h0 := zrV s p
 have h1 := zrV s (p + 1)
 have h2 := zrV s (p + 2)
 have h3 := zrV s (p + 3)
 simp only [znB,zil,zkb,hl,zjG,Nat.add_zero]
 generalize e0 : at8 s p = b0 at *
 generalize e1 : at8 s (p + 1) = b1 at *
 generalize e2 : at8 s (p + 2) = b2 at *
 generalize e3 : at8 s (p + 3) = b3 at *
 have hc1 : zph (s.drop p) 1 = decide (128 ≤ b1 ∧ b1 < 192) := by simp only [zph,zjG,e1]
 have hc2 : zph (s.drop p) 2 = decide (128 ≤ b2 ∧ b2 < 192) := by simp only [zph,zjG,e2]
 have hc3 : zph (s.drop p) 3 = decide (128 ≤ b3 ∧ b3 < 192) := by simp only [zph,zjG,e3]
 have p2 : zfo (s.drop p) 2 1 = b0 % 32 * 64 + b1 % 64 := by simp only [zfo,zjG,Nat.add_zero,e0,e1]
 have p3 : zfo (s.drop p) 3 2 = b0 % 16 * 4096 + b1 % 64 * 64 + b2 % 64 := by simp only [zfo,zjG,Nat.add_zero,e0,e1,e2]; omega
 have p4 : zfo (s.drop p) 4 3 = b0 % 8 * 262144 + b1 % 64 * 4096 + b2 % 64 * 64 + b3 % 64 := by simp only [zfo,zjG,Nat.add_zero,e0,e1,e2,e3]; omega
 have c1 : (b1 / 64 == 2) = decide (128 ≤ b1 ∧ b1 < 192) := by rw [Bool.eq_iff_iff]; simp; omega
 have c2 : (b2 / 64 == 2) = decide (128 ≤ b2 ∧ b2 < 192) := by rw [Bool.eq_iff_iff]; simp; omega
 have c3 : (b3 / 64 == 2) = decide (128 ≤ b3 ∧ b3 < 192) := by rw [Bool.eq_iff_iff]; simp; omega
 simp only [c1,c2,c3]
 by_cases a1 : b0 < 128
 ·have : ¬ (1 > s.length - p) := by omega
  simp [a1,this]
 by_cases a2 : 194 ≤ b0 ∧ b0 < 224
 ·have q1 : (b0 / 32 == 6) = true := by simp; omega
  have q2 : (b0 / 16 == 14) = false := by simp; omega
  have q3 : (b0 / 8 == 30) = false := by simp; omega
  simp only [a1,a2,q1,q2,q3,if_false,if_true,all2,hc1,p2,zeB]
  by_cases l1 : p + 1 < s.length
  ·have : ¬ (2 > s.length - p) := by omega
   by_cases k1 : 128 ≤ b1 ∧ b1 < 192
   ·have g1 : 128 ≤ b0 % 32 * 64 + b1 % 64 := by omega
    have g2 : ¬ (b0 % 32 * 64 + b1 % 64 < 128 ∨ b0 % 32 * 64 + b1 % 64 > 1114111 ∨ 55296 ≤ b0 % 32 * 64 + b1 % 64 ∧ b0 % 32 * 64 + b1 % 64 < 57344) := by omega
    simp [l1,this,k1,g1,g2,all2,hc1,p2,zeB,Utf8.runeError]
   ·simp [l1,this,k1,all2,hc1,p2,zeB,Utf8.runeError]
  ·have : 2 > s.length - p := by omega
   simp [l1,this,all2,hc1,p2,zeB,Utf8.runeError]
 by_cases a3 : 224 ≤ b0 ∧ b0 < 240
 ·have q1 : (b0 / 32 == 6) = false := by simp; omega
  have q2 : (b0 / 16 == 14) = true := by simp; omega
  have q3 : (b0 / 8 == 30) = false := by simp; omega
  simp only [a1,a2,a3,q1,q2,q3,if_false,if_true,all3,hc1,hc2,p3,zeB]
  by_cases l1 : p + 2 < s.length
  ·have : ¬ (3 > s.length - p) := by omega
   have l2 : p + 1 < s.length := by omega
   by_cases k1 : 128 ≤ b1 ∧ b1 < 192
   ·by_cases k2 : 128 ≤ b2 ∧ b2 < 192
    ·obtain ⟨v,hv⟩ : ∃ v,v = b0 % 16 * 4096 + b1 % 64 * 64 + b2 % 64 := ⟨_,rfl⟩
     simp only [← hv]
     rw [← hv] at p3
     have hv' : v < 65536 := by omega
     by_cases g : v < 2048 ∨ 55296 ≤ v ∧ v < 57344
     ·have g1 : (decide (v ≥ 2048) && Utf8.valid (v : Int)) = false := by simp [Utf8.valid]; omega
      have g2 : v < 2048 ∨ v > 1114111 ∨ 55296 ≤ v ∧ v < 57344 := by omega
      simp [l1,l2,this,k1,k2,g2,g1,all3,hc1,hc2,p3,zeB,Utf8.runeError]
     ·have g1 : (decide (v ≥ 2048) && Utf8.valid (v : Int)) = true := by simp [Utf8.valid]; omega
      have g2 : ¬ (v < 2048 ∨ v > 1114111 ∨ 55296 ≤ v ∧ v < 57344) := by omega
      rw [g1]
      simp [l1,l2,this,k1,k2,g2,all3,hc1,hc2,p3,zeB,Utf8.runeError]
    ·simp [l1,l2,this,k1,k2,all3,hc1,hc2,p3,zeB,Utf8.runeError]
   ·simp [l1,l2,this,k1,all3,hc1,hc2,p3,zeB,Utf8.runeError]
  ·have : 3 > s.length - p := by omega
   simp [l1,this,all3,hc1,hc2,p3,zeB,Utf8.runeError]
 by_cases a4 : 240 ≤ b0 ∧ b0 < 245
 ·have q1 : (b0 / 32 == 6) = false := by simp; omega
  have q2 : (b0 / 16 == 14) = false := by simp; omega
  have q3 : (b0 / 8 == 30) = true := by simp; omega
  simp only [a1,a2,a3,a4,q1,q2,q3,if_false,if_true,all4,hc1,hc2,hc3,p4,zeB]
  by_cases l1 : p + 3 < s.length
  ·have : ¬ (4 > s.length - p) := by omega
   have l2 : p + 1 < s.length := by omega
   have l3 : p + 2 < s.length := by omega
   by_cases k1 : 128 ≤ b1 ∧ b1 < 192
   ·by_cases k2 : 128 ≤ b2 ∧ b2 < 192
    ·by_cases k3 : 128 ≤ b3 ∧ b3 < 192
     ·obtain ⟨v,hv⟩ : ∃ v,v = b0 % 8 * 262144 + b1 % 64 * 4096 + b2 % 64 * 64 + b3 % 64 := ⟨_,rfl⟩
      simp only [← hv]
      rw [← hv] at p4
      by_cases g : v < 65536 ∨ v > 1114111
      ·have g1 : (decide (v ≥ 65536) && Utf8.valid (v : Int)) = false := by simp [Utf8.valid]; omega
       have g2 : v < 65536 ∨ v > 1114111 ∨ 55296 ≤ v ∧ v < 57344 := by omega
       rw [g1]
       simp [l1,l2,l3,this,k1,k2,k3,g2,all4,hc1,hc2,hc3,p4,zeB,Utf8.runeError]
      ·have g1 : (decide (v ≥ 65536) && Utf8.valid (v : Int)) = true := by simp [Utf8.valid]; omega
       have g2 : ¬ (v < 65536 ∨ v > 1114111 ∨ 55296 ≤ v ∧ v < 57344) := by omega
       rw [g1]
       simp [l1,l2,l3,this,k1,k2,k3,g2,all4,hc1,hc2,hc3,p4,zeB,Utf8.runeError]
     ·simp [l1,l2,l3,this,k1,k2,k3,all4,hc1,hc2,hc3,p4,zeB,Utf8.runeError]
    ·simp [l1,l2,l3,this,k1,k2,all4,hc1,hc2,hc3,p4,zeB,Utf8.runeError]
   ·simp [l1,l2,l3,this,k1,all4,hc1,hc2,hc3,p4,zeB,Utf8.runeError]
  ·have : 4 > s.length - p := by omega
   simp [l1,this,all4,hc1,hc2,hc3,p4,zeB,Utf8.runeError]
 ·have q2 : (b0 / 16 == 14) = false := by simp; omega
  simp only [a1,a2,a3,a4,q2,if_false,if_true]
  by_cases q : b0 / 32 = 6
  ·have h192 : b0 = 192 ∨ b0 = 193 := by omega
   have q3 : (b0 / 8 == 30) = false := by simp; omega
   have g : ¬ (b0 % 32 * 64 + b1 % 64 ≥ 128) := by omega
   simp [q,q3,g,Utf8.runeError]
  ·by_cases q' : b0 / 8 = 30
   ·have g : ¬ ((b0 % 8 * 262144 + b1 % 64 * 4096 + b2 % 64 * 64 + b3 % 64) ≤ 1114111) := by omega
    obtain ⟨v,hv⟩ : ∃ v,v = b0 % 8 * 262144 + b1 % 64 * 4096 + b2 % 64 * 64 + b3 % 64 := ⟨_,rfl⟩
    rw [← hv] at g
    simp only [← hv]
    have g1 : Utf8.valid (v : Int) = false := by simp [Utf8.valid]; omega
    simp [q,q',g1,Utf8.runeError]
   ·simp [q,q',Utf8.runeError]
theorem ziM (s : List UInt8) : (zil s).2 ≤ s.length ∧ (zil s).2 ≤ 4 ∧ (zil s).1 ≤ 1114111 := by
 have h0 := zrV s 0
 have hz : zkb (at8 s 0) ≤ 4 := by unfold zkb; split <;> (try split) <;> (try split) <;> (try split) <;> omega
 simp only [zil]
 split
 ·simp
 ·rename_i h
  split
  ·rename_i h1; simp only []; omega
  ·split
   ·split
    ·simp
    ·simp only []; omega
   ·simp
theorem goDec_width (s : List UInt8) (h : s ≠ []) : 1 ≤ (znB s).2 ∧ (znB s).2 ≤ s.length ∧ (znB s).1 ≤ 1114111 := by
 have h1 := ziM s
 have h2 : 0 < s.length := List.length_pos_iff.2 h
 unfold znB
 split
 ·simp; omega
 ·omega
def badF (v : Nat) : Bool := decide (v < 33 ∨ (127 ≤ v ∧ v ≤ 159) ∨ v = 47 ∨ v = 65533)
def zcP : Nat → List UInt8 → Option Nat
 | 0,_ => none
 | f + 1,s => if s = [] then some 0 else if (zil s).2 = 0 ∨ badF (zil s).1 = true then none else (zcP f (s.drop (zil s).2)).map (· + 1)
def zfJ (s : List UInt8) : Nat := match zcP (s.length + 1) s with
 | some n => if n > 16 then 0 else n
 | none => 0
def zeL (s : List UInt8) : Bool := decide (0 < zfJ s)
theorem goDec_bad (s : List UInt8) : badF (znB s).1 = (decide ((zil s).2 = 0) || badF (zil s).1) := by
 unfold znB
 split
 ·rename_i h; simp [h,badF]
 ·rename_i h; simp [h]
theorem goDec_good {s : List UInt8} (h : badF (znB s).1 = false) : znB s = zil s ∧ (zil s).2 ≠ 0 ∧ badF (zil s).1 = false := by
 rw [goDec_bad] at h
 simp at h
 exact ⟨by simp [znB,h.1],h.1,h.2⟩
theorem zmT : ∀ (f g : Nat) (s : List UInt8),s.length < f → s.length < g → zcP f s = zcP g s
 | 0,_,_,h,_ => by omega
 | _, 0,_,_,h => by omega
 | f + 1,g + 1,s,h1,h2 => by
  simp only [zcP]
  split
  ·rfl
  ·rename_i hs
   split
   ·rfl
   ·rename_i hd
    have hw := ziM s
    have : 0 < s.length := List.length_pos_iff.2 hs
    rw [zmT f g _ (by simp; omega) (by simp; omega)]
def zaj (x : zr) : Int := if x.client < 0 ∨ x.client ≥ 8 ∨ x.time < 1 ∨ x.time > 9007199254740992 then 80 else zbj zeL x.op
def zab (k d : Int) : Int := if k < 0 ∨ k ≥ 21 ∨ d < 1 ∨ d > 9007199254740992 then 81 else 0
def errF (s : zr) : Int := if zaj s ≠ 0 then zaj s else zab s.key s.dig
def zkR : List zr → Int
 | [] => 0
 | s :: r => if errF s ≠ 0 then errF s else zkR r
def ndup (a b : zr) : Prop := ¬ (a.client = b.client ∧ a.time = b.time)
instance : DecidableRel ndup := fun a b => inferInstanceAs (Decidable (¬ _))
def zad (l : List zr) : Int :=
 if l.length > 4 then 3 else if zkR l ≠ 0 then zkR l else if l.Pairwise ndup then 0 else 5
theorem ztA {l : List zr} : ∀ {k : Nat} {x : zr},l[k]? = some x → zkR (l.take k) = 0 → errF x ≠ 0 → zkR l = errF x := by
 induction l with
 | nil => intro k x h; simp at h
 | cons s r ih =>
  intro k x h h0 hx
  cases k with
  | zero => simp at h; subst h; simp [zkR,hx]
  | succ k =>
   simp only [List.take_succ_cons,zkR] at h0 ⊢
   simp at h
   split at h0
   ·rename_i hs; exact absurd h0 hs
   ·rename_i hs; rw [if_neg hs]; exact ih h h0 hx
theorem errsF_snoc {l : List zr} {k : Nat} {x : zr} (h : l[k]? = some x) (h0 : zkR (l.take k) = 0) (hx : errF x = 0) : zkR (l.take (k + 1)) = 0 := by
 have key : ∀ (a : List zr),zkR a = 0 → zkR (a ++ [x]) = 0 := by
  intro a
  induction a with
  | nil => intro _; simp [zkR,hx]
  | cons s r ih =>
   intro h
   simp only [List.cons_append,zkR] at h ⊢
   split at h
   ·rename_i hs; exact absurd h hs
   ·rename_i hs; rw [if_neg hs]; exact ih h
 rw [List.take_add_one,h]
 exact key _ h0
theorem pairs_snoc {l : List zr} {k : Nat} {x : zr} (h : l[k]? = some x) (h0 : (l.take k).Pairwise ndup) (hx : ∀ y ∈ l.take k, ¬ (x.client = y.client ∧ x.time = y.time)) : (l.take (k + 1)).Pairwise ndup := by
 rw [List.take_add_one,h]
 refine List.pairwise_append.2 ⟨h0,by simp,fun a ha b hb => ?_⟩
 simp at hb; subst hb
 exact fun e => hx a ha ⟨e.1.symm,e.2.symm⟩
theorem pairs_not {l : List zr} {k j : Nat} {x y : zr} (h : l[k]? = some x) (hy : l[j]? = some y) (hj : j < k) (hxy : x.client = y.client ∧ x.time = y.time) : ¬ l.Pairwise ndup := by
 intro hp
 rw [List.pairwise_iff_getElem] at hp
 obtain ⟨hk,rfl⟩ := List.getElem?_eq_some_iff.1 h
 obtain ⟨hj',rfl⟩ := List.getElem?_eq_some_iff.1 hy
 exact hp j k hj' hk hj ⟨hxy.1.symm,hxy.2.symm⟩
def okO (o : TOp) : Prop := o.topic.length ≤ 1073741824 ∧ o.group.length ≤ 1073741824 ∧ o.recs.length ≤ 1073741824 ∧ ∀ r ∈ o.recs,r.length ≤ 1073741824
def okB (b : List zr) : Prop := b.length ≤ 1073741824 ∧ ∀ x ∈ b,okO x.op
def numR (most : Nat) : Nat → Nat → List UInt8 → Except Int (Nat × List UInt8)
 | _,_, [] => .error 10
 | i,acc,c :: r =>
  if i = 9 ∧ c.toNat > 1 then .error 11
  else if c.toNat < 128 then (if (i > 0 ∧ c.toNat = 0) ∨ acc + c.toNat * 128 ^ i > most then .error 11 else .ok (acc + c.toNat * 128 ^ i,r))
  else numR most (i + 1) (acc + c.toNat % 128 * 128 ^ i) r
def zqN (x : zr) : List UInt8 := zcn x.client.toNat ++ (zcn x.time.toNat ++ opB x.op)
def zfK (x : zr) : List UInt8 := if zaj x = 0 then zqN x else []
def signB (k d : Int) : List UInt8 := zcn k.toNat ++ zcn d.toNat
def zlv (k d : Int) : List UInt8 := if zab k d = 0 then signB k d else []
def oneB (x : zr) : List UInt8 := znn (zqN x) ++ signB x.key x.dig
def zik (l : List zr) : List UInt8 := (l.map oneB).flatten
def zjM (l : List zr) : List UInt8 := zcn l.length ++ zik l
def zew (l : List zr) : List UInt8 := if zad l = 0 then zjM l else []
theorem req_ok {x : zr} (h : zaj x = 0) : 0 ≤ x.client ∧ x.client < 8 ∧ 1 ≤ x.time ∧ x.time ≤ 9007199254740992 ∧ zbj zeL x.op = 0 := by
 unfold zaj at h
 split at h
 ·cases h
 ·refine ⟨by omega,by omega,by omega,by omega,h⟩
theorem sign_ok {k d : Int} (h : zab k d = 0) : 0 ≤ k ∧ k < 21 ∧ 1 ≤ d ∧ d ≤ 9007199254740992 := by
 unfold zab at h
 split at h
 ·cases h
 ·omega
theorem errs_mem {l : List zr} (h : zkR l = 0) : ∀ x ∈ l,errF x = 0 := by
 induction l with
 | nil => simp
 | cons s r ih =>
  simp only [zkR] at h
  split at h
  ·rename_i hs; exact absurd h hs
  ·rename_i hs
   intro x hx
   rcases List.mem_cons.1 hx with rfl | hx
   ·simpa using hs
   ·exact ih h x hx
theorem zvv {l : List zr} (h : zad l = 0) : l.length ≤ 4 ∧ (∀ x ∈ l,zaj x = 0 ∧ zab x.key x.dig = 0) ∧ l.Pairwise ndup := by
 unfold zad at h
 split at h
 ·cases h
 ·split at h
  ·rename_i h1; exact absurd h h1
  ·split at h
   ·rename_i h0 h1 h2
    refine ⟨by omega,fun x hx => ?_,h2⟩
    have := errs_mem (by simpa using h1) x hx
    unfold errF at this
    split at this
    ·rename_i h3; exact absurd this h3
    ·rename_i h3; exact ⟨by simpa using h3,this⟩
   ·cases h
theorem opB_len {o : TOp} (h : zmd o ≤ 268435456) (hc : zbj zeL o = 0) : (opB o).length ≤ zmd o + 60 := by
 obtain ⟨k0,k4,o0,o1,_⟩ := check_ok hc
 have hr := zjf o.recs
 have hrb := zmb o.recs (by unfold zmd at h; omega) o.recs.length
 rw [List.take_length] at hrb
 unfold zmd at h ⊢
 have n1 := zt (n := o.kind.toNat) (by omega)
 have n2 := zt (n := o.topic.length) (by omega)
 have n3 := zt (n := o.group.length) (by omega)
 have n4 := zt (n := o.offset.toNat) (by omega)
 have n5 := zt (n := o.recs.length) (by omega)
 have hk : o.kind = 0 ∨ o.kind = 1 ∨ o.kind = 2 ∨ o.kind = 3 ∨ o.kind = 4 := by omega
 rcases hk with hk | hk | hk | hk | hk
 ·rw [opB_0 hk]; omega
 ·rw [opB_1 hk]; simp only [List.length_append]; omega
 ·rw [opB_2 hk]; simp only [List.length_append]; omega
 ·rw [opB_3 hk]; simp only [List.length_append]; omega
 ·rw [opB_4 hk]; simp only [List.length_append]; omega
theorem zqu {x : zr} (h : zmd x.op ≤ 268435456) (hc : zaj x = 0) : (zqN x).length ≤ zmd x.op + 80 := by
 obtain ⟨c0,c8,t1,t2,ho⟩ := req_ok hc
 have := opB_len h ho
 have n1 := zt (n := x.client.toNat) (by omega)
 have n2 := zt (n := x.time.toNat) (by omega)
 simp only [zqN,List.length_append]; omega
theorem signB_len {k d : Int} (h : zab k d = 0) : (signB k d).length ≤ 20 := by
 obtain ⟨k0,k1,d0,d1⟩ := sign_ok h
 have n1 := zt (n := k.toNat) (by omega)
 have n2 := zt (n := d.toNat) (by omega)
 simp only [signB,List.length_append]; omega
theorem oneB_len {x : zr} (h : zmd x.op ≤ 20971520) (h1 : zaj x = 0) (h2 : zab x.key x.dig = 0) : (oneB x).length ≤ 20971700 := by
 have a := zqu (by omega) h1
 have b := signB_len h2
 have c := zeK (x := zqN x) (by omega)
 simp only [oneB,List.length_append]; omega
theorem zrU {l : List zr} (h : ∀ x ∈ l,zmd x.op ≤ 20971520) (hc : zad l = 0) (k : Nat) : (zik (l.take k)).length ≤ 83886800 := by
 obtain ⟨h4,hm,_⟩ := zvv hc
 have key : ∀ (m : List zr),(∀ x ∈ m,x ∈ l) → (zik m).length ≤ m.length * 20971700 := by
  intro m
  induction m with
  | nil => intro _; simp [zik]
  | cons x m ih =>
   intro hsub
   have h1 := ih fun y hy => hsub y (by simp [hy])
   have hx := hsub x (by simp)
   have h2 := oneB_len (h x hx) (hm x hx).1 (hm x hx).2
   simp only [zik,List.map_cons,List.flatten_cons,List.length_append,List.length_cons] at h1 ⊢
   omega
 have := key (l.take k) fun x hx => List.mem_of_mem_take hx
 have h5 : (l.take k).length ≤ 4 := by rw [List.length_take]; omega
 have h6 : (l.take k).length * 20971700 ≤ 4 * 20971700 := Nat.mul_le_mul_right _ h5
 omega
theorem batchBs_snoc {l : List zr} {k : Nat} {x : zr} (h : l[k]? = some x) : zik (l.take (k + 1)) = zik (l.take k) ++ oneB x := by
 rw [List.take_add_one,h]; simp [zik]
theorem reqBytes_len {x : zr} (h : zmd x.op ≤ 20971520) : (zfK x).length ≤ 20971600 := by
 unfold zfK
 split
 ·rename_i hc; have := zqu (by omega) hc; omega
 ·simp
theorem zmj {l : List zr} (h : ∀ x ∈ l,zmd x.op ≤ 20971520) : (zew l).length ≤ 83886900 := by
 unfold zew
 split
 ·rename_i hc
  have := zrU h hc l.length
  rw [List.take_length] at this
  have h4 := (zvv hc).1
  have n1 := zt (n := l.length) (by omega)
  simp only [zjM,List.length_append]; omega
 ·simp
def zhc : Nat → Nat → Nat → Nat
 | 0,k,_ => k
 | f + 1,k,n => if k < n - k then zhc f (k * 2) n else k
def zk (n : Nat) : Nat := if n < 2 then 0 else zhc n 1 n
theorem splitA_lt : ∀ (f k n : Nat), 1 ≤ k → k < n → 1 ≤ zhc f k n ∧ zhc f k n < n
 | 0,k,n,h1,h2 => ⟨h1,h2⟩
 | f + 1,k,n,h1,h2 => by
  simp only [zhc]
  split
  ·exact splitA_lt f (k * 2) n (by omega) (by omega)
  ·exact ⟨h1,h2⟩
theorem zbZ {n : Nat} (h : 2 ≤ n) : 1 ≤ zk n ∧ zk n < n := by
 rw [zk,if_neg (by omega)]
 exact splitA_lt n 1 n (by omega) (by omega)
theorem zjd : ∀ (f k n : Nat), ¬ k < n - k → zhc f k n = k
 | 0,_,_,_ => rfl
 | f + 1,k,n,h => by rw [zhc,if_neg h]
theorem zmu : ∀ (f k n : Nat), 1 ≤ k → n < k + f → k < n - k → zhc f k n = zhc f (k * 2) n
 | 0,k,n,_,h,h2 => by omega
 | f + 1,k,n,h1,h,h2 => by
  rw [zhc,if_pos h2]
  by_cases h3 : k * 2 < n - k * 2
  ·have e : zhc (f + 1) (k * 2) n = zhc f (k * 2 * 2) n := by rw [zhc,if_pos h3]
   rw [e]
   exact zmu f (k * 2) n (by omega) (by omega) h3
  ·rw [zjd f _ _ h3,zjd (f + 1) _ _ h3]
def lenA : Nat → Nat → Nat → Nat
 | 0,_,_ => 0
 | f + 1,i,n => if n ≤ 1 then 0 else if i < zk n then lenA f i (zk n) + 1 else lenA f (i - zk n) (n - zk n) + 1
theorem znx : ∀ (f g i n : Nat),n ≤ f → n ≤ g → lenA f i n = lenA g i n
 | 0,g,i,n,h1,h2 => by
  cases g with
  | zero => rfl
  | succ g => simp only [lenA]; rw [if_pos (by omega)]
 | f + 1, 0,i,n,h1,h2 => by simp only [lenA]; rw [if_pos (by omega)]
 | f + 1,g + 1,i,n,h1,h2 => by
  simp only [lenA]
  by_cases h : n ≤ 1
  ·rw [if_pos h,if_pos h]
  ·have hs := zbZ (n := n) (by omega)
   rw [if_neg h,if_neg h,znx f g i (zk n) (by omega) (by omega),znx f g (i - zk n) (n - zk n) (by omega) (by omega)]
def zdm (i n : Nat) : Nat := lenA n i n
theorem zre {i n : Nat} (h : n ≤ 1) : zdm i n = 0 := by
 unfold zdm
 cases n with
 | zero => rfl
 | succ n => simp only [lenA]; rw [if_pos h]
theorem zkN {i n : Nat} (h : 2 ≤ n) : zdm i n = (if i < zk n then zdm i (zk n) else zdm (i - zk n) (n - zk n)) + 1 := by
 have hs := zbZ h
 unfold zdm
 obtain ⟨m,rfl⟩ : ∃ m,n = m + 1 := ⟨n - 1,by omega⟩
 have e : lenA (m + 1) i (m + 1) = if i < zk (m + 1) then lenA m i (zk (m + 1)) + 1 else lenA m (i - zk (m + 1)) (m + 1 - zk (m + 1)) + 1 := by
  rw [lenA,if_neg (by omega)]
 rw [e,znx m (zk (m + 1)) i _ (by omega) (by omega),znx m (m + 1 - zk (m + 1)) (i - zk (m + 1)) _ (by omega) (by omega)]
 split <;> rfl
theorem zlB (i n : Nat) : zdm i n ≤ n := by
 induction n using Nat.strongRecOn generalizing i with
 | _ n ih =>
  by_cases h : n ≤ 1
  ·rw [zre h]; omega
  ·have hs := zbZ (n := n) (by omega)
   rw [zkN (by omega)]
   split
   ·have := ih (zk n) hs.2 i; omega
   ·have := ih (n - zk n) (by omega) (i - zk n); omega
def zoV (b : List UInt8) : List UInt8 := 0 :: b
def zit (l r : Int) : List UInt8 := 1 :: (zcn l.toNat ++ zcn r.toNat)
def zic : Nat → List (List UInt8) → List (List UInt8) → Int × List (List UInt8)
 | _,L, [] => (zee L [2],zfe L [2])
 | _,L, [x] => (zee L (zoV x),zfe L (zoV x))
 | 0,L,_ => (0,L)
 | f + 1,L,l =>
  let a := zic f L (l.take (zk l.length))
  let b := zic f a.2 (l.drop (zk l.length))
  (zee b.2 (zit a.1 b.1),zfe b.2 (zit a.1 b.1))
def zcc (L l : List (List UInt8)) : Int × List (List UInt8) := zic l.length L l
theorem zlw : ∀ (f g : Nat) (L l : List (List UInt8)),l.length ≤ f → l.length ≤ g → zic f L l = zic g L l
 | f,g,L, [],_,_ => by cases f <;> cases g <;> rfl
 | f,g,L, [x],_,_ => by cases f <;> cases g <;> rfl
 | 0,_,L,x :: y :: r,h,_ => by simp at h
 | _, 0,L,x :: y :: r,_,h => by simp at h
 | f + 1,g + 1,L,x :: y :: r,h1,h2 => by
  have hs := zbZ (n := (x :: y :: r).length) (by simp)
  have e := zlw f g L ((x :: y :: r).take (zk (x :: y :: r).length)) (by rw [List.length_take]; omega) (by rw [List.length_take]; omega)
  simp only [zic,e]
  rw [zlw f g (zic g L ((x :: y :: r).take (zk (x :: y :: r).length))).2 ((x :: y :: r).drop (zk (x :: y :: r).length)) (by rw [List.length_drop]; omega) (by rw [List.length_drop]; omega)]
theorem zux {L l : List (List UInt8)} (h : 2 ≤ l.length) : zcc L l = (zee (zcc (zcc L (l.take (zk l.length))).2 (l.drop (zk l.length))).2 (zit (zcc L (l.take (zk l.length))).1 (zcc (zcc L (l.take (zk l.length))).2 (l.drop (zk l.length))).1),
  zfe (zcc (zcc L (l.take (zk l.length))).2 (l.drop (zk l.length))).2 (zit (zcc L (l.take (zk l.length))).1 (zcc (zcc L (l.take (zk l.length))).2 (l.drop (zk l.length))).1)) := by
 have hs := zbZ h
 have h1 : (l.take (zk l.length)).length = zk l.length := by rw [List.length_take]; omega
 have h2 : (l.drop (zk l.length)).length = l.length - zk l.length := List.length_drop
 obtain ⟨m,hm⟩ : ∃ m,l.length = m + 1 := ⟨l.length - 1,by omega⟩
 have e : ∀ l : List (List UInt8), 2 ≤ l.length → ∀ m,zic (m + 1) L l = (zee (zic m (zic m L (l.take (zk l.length))).2 (l.drop (zk l.length))).2 (zit (zic m L (l.take (zk l.length))).1 (zic m (zic m L (l.take (zk l.length))).2 (l.drop (zk l.length))).1),zfe (zic m (zic m L (l.take (zk l.length))).2 (l.drop (zk l.length))).2 (zit (zic m L (l.take (zk l.length))).1 (zic m (zic m L (l.take (zk l.length))).2 (l.drop (zk l.length))).1)) := by
  intro l hl m
  match l,hl with
  | x :: y :: r,_ => simp only [zic]
 have f1 := zlw m (l.take (zk l.length)).length L (l.take (zk l.length)) (by omega) (Nat.le_refl _)
 have f2 := fun L' => zlw m (l.drop (zk l.length)).length L' (l.drop (zk l.length)) (by omega) (Nat.le_refl _)
 have f0 : zic l.length L l = zic (m + 1) L l := by rw [hm]
 unfold zcc
 rw [f0,e l h m,f1,f2]
def zdI : Nat → List (List UInt8) → List UInt8 → Nat → Nat → List Int → Int × Bool
 | 0,_,_,_,_,_ => (0,false)
 | f + 1,L,b,i,n,p =>
  if n = 1 then (zji (zcN L (zoV b)),(zcN L (zoV b)).isSome) else
  let last := p.getD (p.length - 1) 0
  let q := p.take (p.length - 1)
  if i < zk n then
   let d := zdI f L b i (zk n) q
   if d.2 = true then (zji (zcN L (zit d.1 last)),(zcN L (zit d.1 last)).isSome) else (0,false)
  else
   let d := zdI f L b (i - zk n) (n - zk n) q
   if d.2 = true then (zji (zcN L (zit last d.1)),(zcN L (zit last d.1)).isSome) else (0,false)
def zfk (L : List (List UInt8)) (root : Int) (b : List UInt8) (i n : Int) (p : List Int) : Bool :=
 if i < 0 ∨ i ≥ n ∨ (p.length : Int) ≠ zdm i.toNat n.toNat then false else (zdI n.toNat L b i.toNat n.toNat p).2 && ((zdI n.toNat L b i.toNat n.toNat p).1 == root)
def zca : Nat → List (List UInt8) → Nat → List (List UInt8) → List Int × List (List UInt8)
 | 0,L,_,_ => ([],L)
 | f + 1,L,i,l =>
  if l.length ≤ 1 then ([],L) else
  let k := zk l.length
  if i < k then
   let p := zca f L i (l.take k)
   let r := zcc p.2 (l.drop k)
   (p.1 ++ [r.1],r.2)
  else
   let p := zca f L (i - k) (l.drop k)
   let r := zcc p.2 (l.take k)
   (p.1 ++ [r.1],r.2)
end Go.AW
