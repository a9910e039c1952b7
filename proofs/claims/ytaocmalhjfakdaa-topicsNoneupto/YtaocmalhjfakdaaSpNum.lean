/- How a number is put: seven bits a byte. No program in sight. -/
import Derived.IntWalk
import Derived.Test.YtaocmalhjfakdaaAwEnd
import Derived.Test.YtaocmalhjfakdaaAwFun
import GoSem.Core.Utf8
set_option linter.all false
namespace Go.AW

def zeK (n : Nat) : List UInt8 := if n < 128 then [UInt8.ofNat n] else UInt8.ofNat (n % 128 + 128) :: zeK (n / 128)
termination_by n
decreasing_by omega

theorem zfw {n : Nat} (h : n < 128) : zeK n = [UInt8.ofNat n] := by rw [zeK, if_pos h]
theorem zko {n : Nat} (h : ¬ n < 128) : zeK n = UInt8.ofNat (n % 128 + 128) :: zeK (n / 128) := by rw [zeK, if_neg h]
theorem numB_len : ∀ (k n : Nat), n < 128 ^ (k + 1) → 1 ≤ (zeK n).length ∧ (zeK n).length ≤ k + 1
  | 0, n, h => by rw [zfw (by simpa using h)]; simp
  | k + 1, n, h => by
    by_cases hs : n < 128
    · rw [zfw hs]; simp
    · rw [zko hs]
      have := numB_len k (n / 128) (by rw [Nat.div_lt_iff_lt_mul (by omega)]; rw [Nat.pow_succ] at h; exact h)
      simp; omega
theorem zbb {n : Nat} (h : n < 18446744073709551616) : 1 ≤ (zeK n).length ∧ (zeK n).length ≤ 10 := numB_len 9 n (by omega)

theorem or128 : ∀ x : Fin 256, (BitVec.ofInt 8 (x.val : Int) ||| BitVec.ofInt 8 128).toNat = x.val % 128 + 128 := by decide +kernel
theorem wrap8 (n : Nat) : IntKind.u8.wrap (n : Int) = ((n % 256 : Nat) : Int) := by
  simp [IntKind.wrap, IntKind.signed, IntKind.bits]
theorem zhW {n : Nat} (h : n < 256) : IntKind.u8.wrap (n : Int) = (n : Int) := by rw [wrap8, Nat.mod_eq_of_lt h]
theorem zig {n : Nat} (h : n < 18446744073709551616) : IntKind.u64.wrap (n : Int) = (n : Int) := by
  simp [IntKind.wrap, IntKind.signed, IntKind.bits]
  omega
theorem zcA {n : Int} (h1 : -9223372036854775808 ≤ n) (h2 : n ≤ 9223372036854775807) : IntKind.i64.wrap n = n := IntWalk.i64_in n ⟨h1, h2⟩
theorem zfD {n : Nat} (h : n < 256) : ((UInt8.ofNat n).toNat : Int) = (n : Int) := by
  simp; omega

structure TOp where
  kind : Int
  topic : List UInt8
  group : List UInt8
  offset : Int
  recs : List (List UInt8)
deriving DecidableEq

def zbx (rs : List (List UInt8)) : List (List D) := rs.map fun r => [D.slice (bcs r)]
def opA (o : TOp) : AV := .agg [.d (.int .i64 o.kind), .d (.str o.topic), .d (.str o.group), .d (.int .i64 o.offset), .d (.slice (zbx o.recs))]
def noOp : TOp := ⟨0, [], [], 0, []⟩

theorem zio (rs : List (List UInt8)) : ∀ e ∈ zbx rs, e.length = 1 := by
  intro e he
  obtain ⟨r, _, rfl⟩ := List.mem_map.1 he
  rfl
theorem zI (rs : List (List UInt8)) : (zbx rs).length = rs.length := by simp [zbx]
theorem zgj {rs : List (List UInt8)} {k : Nat} {r : List UInt8} (h : rs[k]? = some r) : (zbx rs)[k]? = some [D.slice (bcs r)] := by simp [zbx, h]

def onlyF (o : TOp) : TOp :=
  if o.kind = 1 then { noOp with kind := o.kind, topic := o.topic }
  else if o.kind = 2 then { noOp with kind := o.kind, topic := o.topic, recs := o.recs }
  else if o.kind = 3 then { noOp with kind := o.kind, topic := o.topic, group := o.group, offset := o.offset }
  else if o.kind = 4 then { noOp with kind := o.kind, topic := o.topic, offset := o.offset }
  else { noOp with kind := o.kind }
def zgl (o : TOp) : Bool := decide (0 ≤ o.kind ∧ o.kind ≤ 4)
def zaB (name : List UInt8 → Bool) (o : TOp) : Int :=
  if zgl o = false ∨ o ≠ onlyF o then 60
  else if o.kind ≠ 0 ∧ name o.topic = false then 61
  else if o.kind = 3 ∧ name o.group = false then 61
  else if o.kind = 2 ∧ (o.recs.length < 1 ∨ o.recs.length > 4 ∨ o.recs.any (fun r => decide (r.length > 64)) = true) then 62
  else if o.offset < 0 ∨ o.offset > 9007199254740992 then 60
  else 0

def putB (x : List UInt8) : List UInt8 := zeK x.length ++ x
def opSz (o : TOp) : Nat := o.topic.length + o.group.length + (o.recs.map fun r => r.length + 10).sum
theorem take_eq_of {α : Type} {a b : List α} (hl : a.length = b.length) {k : Nat} (hk : k = a.length) (h : a.take k = b.take k) : a = b := by
  rw [hk, List.take_length, hl, List.take_length] at h
  exact h
theorem take_succ_eq {α : Type} {a b : List α} {k : Nat} {x y : α} (ha : a[k]? = some x) (hb : b[k]? = some y) (h : a.take k = b.take k) (e : x = y) : a.take (k + 1) = b.take (k + 1) := by
  rw [List.take_add_one, List.take_add_one, ha, hb, h, e]

theorem list_as {α β : Type} {f : α → β} : ∀ {l : List β}, (∀ e ∈ l, ∃ a, e = f a) → ∃ as_ : List α, l = as_.map f
  | [], _ => ⟨[], rfl⟩
  | e :: l, h => by
    obtain ⟨a, rfl⟩ := h e List.mem_cons_self
    obtain ⟨as_, rfl⟩ := list_as (l := l) (fun x hx => h x (List.mem_cons_of_mem _ hx))
    exact ⟨a :: as_, rfl⟩
theorem fits1 {t : Ty} {d : D} (h : zdf [t] [d]) : zfl t d := h.2 0 t d rfl rfl
theorem one_of {t : Ty} {ds : List D} (h : zdf [t] ds) : ∃ d, ds = [d] ∧ zfl t d := by
  match ds, h with
  | [d], h => exact ⟨d, rfl, fits1 h⟩
theorem zbq {t : Ty} {ts : List Ty} {ds : List D} (h : zdf (t :: ts) ds) : ∃ d ds', ds = d :: ds' ∧ zfl t d ∧ zdf ts ds' := by
  match ds, h with
  | d :: ds', h => exact ⟨d, ds', rfl, h.2 0 t d rfl rfl, by have := h.1; simpa using this, fun i t d h1 h2 => h.2 (i + 1) t d h1 h2⟩
theorem tfits_nil {ds : List D} (h : zdf [] ds) : ds = [] := by
  have := h.1; simpa using this
theorem dec_int {k : IntKind} {d : D} (h : zfl (.int k) d) : ∃ n, d = .int k n ∧ (Lit.int k n).wf = true := by cases h with | int _ n h => exact ⟨n, rfl, h⟩
theorem ziS {d : D} (h : zfl (.int .i64) d) : ∃ n, d = .int .i64 n ∧ -9223372036854775808 ≤ n ∧ n ≤ 9223372036854775807 := by
  obtain ⟨n, hd, h2⟩ := dec_int h
  exact ⟨n, hd, by simpa [Lit.wf, IntKind.min, IntKind.max, IntKind.signed, IntKind.bits] using h2⟩
theorem dec_u8 {d : D} (h : zfl (.int .u8) d) : ∃ b : UInt8, d = .int .u8 b.toNat := by
  obtain ⟨n, hd, h2⟩ := dec_int h
  have h' : 0 ≤ n ∧ n ≤ 255 := by simpa [Lit.wf, IntKind.min, IntKind.max, IntKind.signed, IntKind.bits] using h2
  exact ⟨UInt8.ofNat n.toNat, by rw [hd, zfD (by omega)]; congr 1; omega⟩
theorem dec_str {d : D} (h : zfl .str d) : ∃ s, d = .str s := by cases h with | str s _ => exact ⟨s, rfl⟩
theorem dec_slice {α : Type} {ts : List Ty} {d : D} {f : α → List D} (h : zfl (.slice ts) d) (hf : ∀ e, zdf ts e → ∃ a, e = f a) : ∃ as_ : List α, d = .slice (as_.map f) := by
  cases h with
  | slice _ es h1 h2 h3 =>
    obtain ⟨as_, rfl⟩ := list_as (f := f) (fun e he => hf e ⟨h2 e he, h3 e he⟩)
    exact ⟨as_, rfl⟩
theorem dec_bytes {d : D} (h : zfl (.slice [.int .u8]) d) : ∃ bs, d = .slice (bcs bs) := dec_slice h fun e he => by
  obtain ⟨d, rfl, h⟩ := one_of he
  obtain ⟨b, rfl⟩ := dec_u8 h
  exact ⟨b, rfl⟩
theorem dec_recs {d : D} (h : zfl (.slice [.slice [.int .u8]]) d) : ∃ rs, d = .slice (zbx rs) := dec_slice h fun e he => by
  obtain ⟨d, rfl, h⟩ := one_of he
  obtain ⟨b, rfl⟩ := dec_bytes h
  exact ⟨b, rfl⟩
theorem bulk_bcs (bs : List UInt8) : zgy (bcs bs) = bs.length := by
  induction bs with
  | nil => rfl
  | cons b bs ih => simp only [bcs, List.map_cons, zaH, zgy, zfh, zjs, List.length_cons] at ih ⊢; omega
def i64r (n : Int) : Prop := -9223372036854775808 ≤ n ∧ n ≤ 9223372036854775807
def opR (o : TOp) : Prop := i64r o.kind ∧ i64r o.offset

structure zev where
  key : Int
  dig : Int
deriving DecidableEq
structure zU where
  client : Int
  time : Int
  op : TOp
  key : Int
  dig : Int
deriving DecidableEq
structure TPrep where
  view : Int
  seq : Int
  dig : Int
  fkey : Int
  fdig : Int
  signs : List zev
  batch : List zU
deriving DecidableEq
structure TCert where
  seq : Int
  dig : Int
  signs : List zev
deriving DecidableEq
structure TChange where
  view : Int
  src : Int
  cert : TCert
  above : List TPrep
  key : Int
  dig : Int
deriving DecidableEq
structure TEntry where
  view : Int
  seq : Int
  batch : List zU
  key : Int
  dig : Int
deriving DecidableEq

def signD (s : zev) : List D := [.int .i64 s.key, .int .i64 s.dig]
abbrev signsE (l : List zev) : List (List D) := l.map signD
def signedD (x : zU) : List D := [.int .i64 x.client, .int .i64 x.time, .int .i64 x.op.kind, .str x.op.topic, .str x.op.group, .int .i64 x.op.offset, .slice (zbx x.op.recs), .int .i64 x.key, .int .i64 x.dig]
abbrev batchE (b : List zU) : List (List D) := b.map signedD
theorem one_len {α : Type} {f : α → List D} {n : Nat} (hf : ∀ a, (f a).length = n) (l : List α) : ∀ e ∈ l.map f, e.length = n := by
  intro e he
  obtain ⟨a, _, rfl⟩ := List.mem_map.1 he
  exact hf a
theorem map_get {α : Type} {f : α → List D} {l : List α} {k : Nat} {x : α} (h : l[k]? = some x) : (l.map f)[k]? = some (f x) := by simp [h]
def signedR (x : zU) : Prop := i64r x.client ∧ i64r x.time ∧ opR x.op ∧ i64r x.key ∧ i64r x.dig

def lookAt : List (List UInt8) → List UInt8 → Nat → Option Nat
  | [], _, _ => none
  | x :: r, b, i => if b = x then some i else lookAt r b (i + 1)
def lookF (l : List (List UInt8)) (b : List UInt8) : Option Nat := lookAt l b 0
def sumL (l : List (List UInt8)) (b : List UInt8) : List (List UInt8) := match lookF l b with
  | some _ => l
  | none => if l.length ≥ 1048576 then l else l ++ [b]
abbrev tabE (l : List (List UInt8)) : List (List D) := l.map fun b => [D.slice (bcs b)]
def tabMA : List (List UInt8) → Nat → List (AV × AV)
  | [], _ => []
  | x :: r, i => (.d (.str x), .d (.int .i64 ((i + 1 : Nat) : Int))) :: tabMA r (i + 1)
def tabM (l : List (List UInt8)) : List (AV × AV) := tabMA l 0

theorem zkr {l : List (List UInt8)} {b : List UInt8} (h : lookF l b = none) : b ∉ l := by
  have key : ∀ (l : List (List UInt8)) (i : Nat), lookAt l b i = none → b ∉ l := by
    intro l
    induction l with
    | nil => intro i _; simp
    | cons x r ih =>
      intro i h
      simp only [lookAt] at h
      split at h
      · cases h
      · rename_i hne
        simp only [List.mem_cons, not_or]
        exact ⟨hne, ih _ h⟩
  exact key l 0 h
abbrev ledE (l : List zev) : List (List D) := signsE l
def ledM (l : List zev) : List (AV × AV) := l.map fun s => (.agg [.d (.int .i64 s.key), .d (.int .i64 s.dig)], .d (.bool true))

def at8 (s : List UInt8) (i : Nat) : Nat := (s[i]?.getD 0).toNat
def sizeF (c : Nat) : Nat := if c < 128 then 1 else if 194 ≤ c ∧ c < 224 then 2 else if 224 ≤ c ∧ c < 240 then 3 else if 240 ≤ c ∧ c < 245 then 4 else 0
def zhQ (s : List UInt8) (z : Nat) : Nat → Nat
  | 0 => at8 s 0 % 2 ^ (7 - z)
  | i + 1 => zhQ s z i * 64 + at8 s (i + 1) % 64
def contF (s : List UInt8) (i : Nat) : Bool := decide (128 ≤ at8 s i ∧ at8 s i < 192)
def zcp (z : Nat) : Nat := if z = 2 then 128 else if z = 3 then 2048 else if z = 4 then 65536 else 0
def zkD (s : List UInt8) : Nat × Nat :=
  let z := sizeF (at8 s 0)
  if z = 0 ∨ z > s.length then (0, 0)
  else if z = 1 then (at8 s 0, 1)
  else if (∀ i, i < z → 1 ≤ i → contF s i = true) then
    if zhQ s z (z - 1) < zcp z ∨ zhQ s z (z - 1) > 1114111 ∨ (55296 ≤ zhQ s z (z - 1) ∧ zhQ s z (z - 1) < 57344) then (0, 0) else (zhQ s z (z - 1), z)
  else (0, 0)

theorem at8_lt (s : List UInt8) (i : Nat) : at8 s i < 256 := (s[i]?.getD 0).toNat_lt
theorem zeG (s : List UInt8) (p i : Nat) : at8 (s.drop p) i = at8 s (p + i) := by simp [at8, List.getElem?_drop]
theorem get_at8 (s : List UInt8) (i : Nat) : ((ByteArray.mk s.toArray).get! i).toNat = at8 s i := by
  simp only [ByteArray.get!, at8]
  rw [getElem!_def]
  simp only [List.getElem?_toArray]
  cases s[i]? <;> rfl

theorem all2 (p : Nat → Bool) : (∀ i, i < 2 → 1 ≤ i → p i = true) ↔ p 1 = true := ⟨fun h => h 1 (by omega) (by omega), fun h i h1 h2 => by
  obtain rfl : i = 1 := by omega
  exact h⟩
theorem all3 (p : Nat → Bool) : (∀ i, i < 3 → 1 ≤ i → p i = true) ↔ p 1 = true ∧ p 2 = true := ⟨fun h => ⟨h 1 (by omega) (by omega), h 2 (by omega) (by omega)⟩, fun h i h1 h2 => by
  have : i = 1 ∨ i = 2 := by omega
  rcases this with rfl | rfl
  · exact h.1
  · exact h.2⟩
theorem all4 (p : Nat → Bool) : (∀ i, i < 4 → 1 ≤ i → p i = true) ↔ p 1 = true ∧ p 2 = true ∧ p 3 = true := ⟨fun h => ⟨h 1 (by omega) (by omega), h 2 (by omega) (by omega), h 3 (by omega) (by omega)⟩, fun h i h1 h2 => by
  have : i = 1 ∨ i = 2 ∨ i = 3 := by omega
  rcases this with rfl | rfl | rfl
  · exact h.1
  · exact h.2.1
  · exact h.2.2⟩

def zgr (s : List UInt8) : Nat × Nat := if (zkD s).2 = 0 then (65533, 1) else zkD s

theorem decode_eq (s : List UInt8) (p : Nat) (hp : p < s.length) : Utf8.decode ⟨s.toArray⟩ p = zgr (s.drop p) := by
  have hsz : (ByteArray.mk s.toArray).size = s.length := by simp [ByteArray.size]
  have hl : (s.drop p).length = s.length - p := by simp
  unfold Utf8.decode
  simp only [get_at8, hsz, Nat.add_zero]
  have h0 := at8_lt s p
  have h1 := at8_lt s (p + 1)
  have h2 := at8_lt s (p + 2)
  have h3 := at8_lt s (p + 3)
  simp only [zgr, zkD, sizeF, hl, zeG, Nat.add_zero]
  generalize e0 : at8 s p = b0 at *
  generalize e1 : at8 s (p + 1) = b1 at *
  generalize e2 : at8 s (p + 2) = b2 at *
  generalize e3 : at8 s (p + 3) = b3 at *
  have hc1 : contF (s.drop p) 1 = decide (128 ≤ b1 ∧ b1 < 192) := by simp only [contF, zeG, e1]
  have hc2 : contF (s.drop p) 2 = decide (128 ≤ b2 ∧ b2 < 192) := by simp only [contF, zeG, e2]
  have hc3 : contF (s.drop p) 3 = decide (128 ≤ b3 ∧ b3 < 192) := by simp only [contF, zeG, e3]
  have p2 : zhQ (s.drop p) 2 1 = b0 % 32 * 64 + b1 % 64 := by simp only [zhQ, zeG, Nat.add_zero, e0, e1]
  have p3 : zhQ (s.drop p) 3 2 = b0 % 16 * 4096 + b1 % 64 * 64 + b2 % 64 := by simp only [zhQ, zeG, Nat.add_zero, e0, e1, e2]; omega
  have p4 : zhQ (s.drop p) 4 3 = b0 % 8 * 262144 + b1 % 64 * 4096 + b2 % 64 * 64 + b3 % 64 := by simp only [zhQ, zeG, Nat.add_zero, e0, e1, e2, e3]; omega
  have c1 : (b1 / 64 == 2) = decide (128 ≤ b1 ∧ b1 < 192) := by rw [Bool.eq_iff_iff]; simp; omega
  have c2 : (b2 / 64 == 2) = decide (128 ≤ b2 ∧ b2 < 192) := by rw [Bool.eq_iff_iff]; simp; omega
  have c3 : (b3 / 64 == 2) = decide (128 ≤ b3 ∧ b3 < 192) := by rw [Bool.eq_iff_iff]; simp; omega
  simp only [c1, c2, c3]
  by_cases a1 : b0 < 128
  · have : ¬ (1 > s.length - p) := by omega
    simp [a1, this]
  by_cases a2 : 194 ≤ b0 ∧ b0 < 224
  · have q1 : (b0 / 32 == 6) = true := by simp; omega
    have q2 : (b0 / 16 == 14) = false := by simp; omega
    have q3 : (b0 / 8 == 30) = false := by simp; omega
    simp only [a1, a2, q1, q2, q3, if_false, if_true, all2, hc1, p2, zcp]
    by_cases l1 : p + 1 < s.length
    · have : ¬ (2 > s.length - p) := by omega
      by_cases k1 : 128 ≤ b1 ∧ b1 < 192
      · have g1 : 128 ≤ b0 % 32 * 64 + b1 % 64 := by omega
        have g2 : ¬ (b0 % 32 * 64 + b1 % 64 < 128 ∨ b0 % 32 * 64 + b1 % 64 > 1114111 ∨ 55296 ≤ b0 % 32 * 64 + b1 % 64 ∧ b0 % 32 * 64 + b1 % 64 < 57344) := by omega
        simp [l1, this, k1, g1, g2, all2, hc1, p2, zcp, Utf8.runeError]
      · simp [l1, this, k1, all2, hc1, p2, zcp, Utf8.runeError]
    · have : 2 > s.length - p := by omega
      simp [l1, this, all2, hc1, p2, zcp, Utf8.runeError]
  by_cases a3 : 224 ≤ b0 ∧ b0 < 240
  · have q1 : (b0 / 32 == 6) = false := by simp; omega
    have q2 : (b0 / 16 == 14) = true := by simp; omega
    have q3 : (b0 / 8 == 30) = false := by simp; omega
    simp only [a1, a2, a3, q1, q2, q3, if_false, if_true, all3, hc1, hc2, p3, zcp]
    by_cases l1 : p + 2 < s.length
    · have : ¬ (3 > s.length - p) := by omega
      have l2 : p + 1 < s.length := by omega
      by_cases k1 : 128 ≤ b1 ∧ b1 < 192
      · by_cases k2 : 128 ≤ b2 ∧ b2 < 192
        · obtain ⟨v, hv⟩ : ∃ v, v = b0 % 16 * 4096 + b1 % 64 * 64 + b2 % 64 := ⟨_, rfl⟩
          simp only [← hv]
          rw [← hv] at p3
          have hv' : v < 65536 := by omega
          by_cases g : v < 2048 ∨ 55296 ≤ v ∧ v < 57344
          · have g1 : (decide (v ≥ 2048) && Utf8.valid (v : Int)) = false := by simp [Utf8.valid]; omega
            have g2 : v < 2048 ∨ v > 1114111 ∨ 55296 ≤ v ∧ v < 57344 := by omega
            simp [l1, l2, this, k1, k2, g2, g1, all3, hc1, hc2, p3, zcp, Utf8.runeError]
          · have g1 : (decide (v ≥ 2048) && Utf8.valid (v : Int)) = true := by simp [Utf8.valid]; omega
            have g2 : ¬ (v < 2048 ∨ v > 1114111 ∨ 55296 ≤ v ∧ v < 57344) := by omega
            rw [g1]
            simp [l1, l2, this, k1, k2, g2, all3, hc1, hc2, p3, zcp, Utf8.runeError]
        · simp [l1, l2, this, k1, k2, all3, hc1, hc2, p3, zcp, Utf8.runeError]
      · simp [l1, l2, this, k1, all3, hc1, hc2, p3, zcp, Utf8.runeError]
    · have : 3 > s.length - p := by omega
      simp [l1, this, all3, hc1, hc2, p3, zcp, Utf8.runeError]
  by_cases a4 : 240 ≤ b0 ∧ b0 < 245
  · have q1 : (b0 / 32 == 6) = false := by simp; omega
    have q2 : (b0 / 16 == 14) = false := by simp; omega
    have q3 : (b0 / 8 == 30) = true := by simp; omega
    simp only [a1, a2, a3, a4, q1, q2, q3, if_false, if_true, all4, hc1, hc2, hc3, p4, zcp]
    by_cases l1 : p + 3 < s.length
    · have : ¬ (4 > s.length - p) := by omega
      have l2 : p + 1 < s.length := by omega
      have l3 : p + 2 < s.length := by omega
      by_cases k1 : 128 ≤ b1 ∧ b1 < 192
      · by_cases k2 : 128 ≤ b2 ∧ b2 < 192
        · by_cases k3 : 128 ≤ b3 ∧ b3 < 192
          · obtain ⟨v, hv⟩ : ∃ v, v = b0 % 8 * 262144 + b1 % 64 * 4096 + b2 % 64 * 64 + b3 % 64 := ⟨_, rfl⟩
            simp only [← hv]
            rw [← hv] at p4
            by_cases g : v < 65536 ∨ v > 1114111
            · have g1 : (decide (v ≥ 65536) && Utf8.valid (v : Int)) = false := by simp [Utf8.valid]; omega
              have g2 : v < 65536 ∨ v > 1114111 ∨ 55296 ≤ v ∧ v < 57344 := by omega
              rw [g1]
              simp [l1, l2, l3, this, k1, k2, k3, g2, all4, hc1, hc2, hc3, p4, zcp, Utf8.runeError]
            · have g1 : (decide (v ≥ 65536) && Utf8.valid (v : Int)) = true := by simp [Utf8.valid]; omega
              have g2 : ¬ (v < 65536 ∨ v > 1114111 ∨ 55296 ≤ v ∧ v < 57344) := by omega
              rw [g1]
              simp [l1, l2, l3, this, k1, k2, k3, g2, all4, hc1, hc2, hc3, p4, zcp, Utf8.runeError]
          · simp [l1, l2, l3, this, k1, k2, k3, all4, hc1, hc2, hc3, p4, zcp, Utf8.runeError]
        · simp [l1, l2, l3, this, k1, k2, all4, hc1, hc2, hc3, p4, zcp, Utf8.runeError]
      · simp [l1, l2, l3, this, k1, all4, hc1, hc2, hc3, p4, zcp, Utf8.runeError]
    · have : 4 > s.length - p := by omega
      simp [l1, this, all4, hc1, hc2, hc3, p4, zcp, Utf8.runeError]
  · have q2 : (b0 / 16 == 14) = false := by simp; omega
    simp only [a1, a2, a3, a4, q2, if_false, if_true]
    by_cases q : b0 / 32 = 6
    · have h192 : b0 = 192 ∨ b0 = 193 := by omega
      have q3 : (b0 / 8 == 30) = false := by simp; omega
      have g : ¬ (b0 % 32 * 64 + b1 % 64 ≥ 128) := by omega
      simp [q, q3, g, Utf8.runeError]
    · by_cases q' : b0 / 8 = 30
      · have g : ¬ ((b0 % 8 * 262144 + b1 % 64 * 4096 + b2 % 64 * 64 + b3 % 64) ≤ 1114111) := by omega
        obtain ⟨v, hv⟩ : ∃ v, v = b0 % 8 * 262144 + b1 % 64 * 4096 + b2 % 64 * 64 + b3 % 64 := ⟨_, rfl⟩
        rw [← hv] at g
        simp only [← hv]
        have g1 : Utf8.valid (v : Int) = false := by simp [Utf8.valid]; omega
        simp [q, q', g1, Utf8.runeError]
      · simp [q, q', Utf8.runeError]

theorem zfB (s : List UInt8) : (zkD s).2 ≤ s.length ∧ (zkD s).2 ≤ 4 ∧ (zkD s).1 ≤ 1114111 := by
  have h0 := at8_lt s 0
  have hz : sizeF (at8 s 0) ≤ 4 := by unfold sizeF; split <;> (try split) <;> (try split) <;> (try split) <;> omega
  simp only [zkD]
  split
  · simp
  · rename_i h
    split
    · rename_i h1; simp only []; omega
    · split
      · split
        · simp
        · simp only []; omega
      · simp
theorem goDec_width (s : List UInt8) (h : s ≠ []) : 1 ≤ (zgr s).2 ∧ (zgr s).2 ≤ s.length ∧ (zgr s).1 ≤ 1114111 := by
  have h1 := zfB s
  have h2 : 0 < s.length := List.length_pos_iff.2 h
  unfold zgr
  split
  · simp; omega
  · omega

def badF (v : Nat) : Bool := decide (v < 33 ∨ (127 ≤ v ∧ v ≤ 159) ∨ v = 47 ∨ v = 65533)
def zct : Nat → List UInt8 → Option Nat
  | 0, _ => none
  | f + 1, s => if s = [] then some 0 else if (zkD s).2 = 0 ∨ badF (zkD s).1 = true then none else (zct f (s.drop (zkD s).2)).map (· + 1)
def zfI (s : List UInt8) : Nat := match zct (s.length + 1) s with
  | some n => if n > 16 then 0 else n
  | none => 0
def zdm (s : List UInt8) : Bool := decide (0 < zfI s)

theorem goDec_bad (s : List UInt8) : badF (zgr s).1 = (decide ((zkD s).2 = 0) || badF (zkD s).1) := by
  unfold zgr
  split
  · rename_i h; simp [h, badF]
  · rename_i h; simp [h]
theorem goDec_good {s : List UInt8} (h : badF (zgr s).1 = false) : zgr s = zkD s ∧ (zkD s).2 ≠ 0 ∧ badF (zkD s).1 = false := by
  rw [goDec_bad] at h
  simp at h
  exact ⟨by simp [zgr, h.1], h.1, h.2⟩
theorem ziT : ∀ (f g : Nat) (s : List UInt8), s.length < f → s.length < g → zct f s = zct g s
  | 0, _, _, h, _ => by omega
  | _, 0, _, _, h => by omega
  | f + 1, g + 1, s, h1, h2 => by
    simp only [zct]
    split
    · rfl
    · rename_i hs
      split
      · rfl
      · rename_i hd
        have hw := zfB s
        have : 0 < s.length := List.length_pos_iff.2 hs
        rw [ziT f g _ (by simp; omega) (by simp; omega)]

def zdR (x : zU) : Int := if x.client < 0 ∨ x.client ≥ 8 ∨ x.time < 1 ∨ x.time > 9007199254740992 then 80 else zaB zdm x.op
def zho (k d : Int) : Int := if k < 0 ∨ k ≥ 21 ∨ d < 1 ∨ d > 9007199254740992 then 81 else 0
def errF (s : zU) : Int := if zdR s ≠ 0 then zdR s else zho s.key s.dig
def errsF : List zU → Int
  | [] => 0
  | s :: r => if errF s ≠ 0 then errF s else errsF r
def ndup (a b : zU) : Prop := ¬ (a.client = b.client ∧ a.time = b.time)
instance : DecidableRel ndup := fun a b => inferInstanceAs (Decidable (¬ _))
def zdS (l : List zU) : Int :=
  if l.length > 4 then 3 else if errsF l ≠ 0 then errsF l else if l.Pairwise ndup then 0 else 5

def okO (o : TOp) : Prop := o.topic.length ≤ 1073741824 ∧ o.group.length ≤ 1073741824 ∧ o.recs.length ≤ 1073741824 ∧ ∀ r ∈ o.recs, r.length ≤ 1073741824

def numR (most : Nat) : Nat → Nat → List UInt8 → Except Int (Nat × List UInt8)
  | _, _, [] => .error 10
  | i, acc, c :: r =>
    if i = 9 ∧ c.toNat > 1 then .error 11
    else if c.toNat < 128 then (if (i > 0 ∧ c.toNat = 0) ∨ acc + c.toNat * 128 ^ i > most then .error 11 else .ok (acc + c.toNat * 128 ^ i, r))
    else numR most (i + 1) (acc + c.toNat % 128 * 128 ^ i) r





structure THdr where
  seq : Int
  prev : Int
  batch : Int
  root : Int
  state : Int
deriving DecidableEq
structure zcS where
  topic : List UInt8
  offset : Int
  rec_ : List UInt8
abbrev zir (p : zcS) : List D := [.str p.topic, .int .i64 p.offset, .slice (bcs p.rec_)]
abbrev zdJ (l : List zcS) : List (List D) := l.map zir
def zgO (p : zcS) : List UInt8 := putB p.topic ++ (zeK p.offset.toNat ++ putB p.rec_)

structure Rd where
  b : List UInt8
  e : Int
def Rd.fail (cut : Bool) (s : Rd) (x : Int) : Rd := if s.e = 0 ∧ x ≠ 0 then ⟨if cut then [] else s.b, x⟩ else s
def numP (cut : Bool) (most : Nat) (s : Rd) : Nat × Rd :=
  if s.e = 0 then (match numR most 0 0 s.b with | .ok (n, r) => (n, ⟨r, 0⟩) | .error x => (0, s.fail cut x)) else (0, s)
def takeP (cut : Bool) (n : Nat) (s : Rd) : List UInt8 × Rd :=
  if s.e = 0 then (if n > s.b.length then ([], s.fail cut 10) else (s.b.take n, ⟨s.b.drop n, 0⟩)) else ([], s)
def zfR (cut : Bool) (most : Nat) (s : Rd) : List UInt8 × Rd := takeP cut (numP cut most s).1 (numP cut most s).2
def zkl (cut : Bool) : Nat → Rd → List (List UInt8) × Rd
  | 0, s => ([], s)
  | k + 1, s => ((zkl cut k s).1 ++ [(zfR cut 64 (zkl cut k s).2).1], (zfR cut 64 (zkl cut k s).2).2)
def ziP (cut : Bool) (k : Nat) (s : Rd) : TOp × Rd :=
  let t := zfR cut 64 s
  if k = 0 then (noOp, s)
  else if k = 2 then (let n := numP cut 4 t.2; let r := zkl cut n.1 n.2; (⟨k, t.1, [], 0, r.1⟩, r.2))
  else if k = 3 then (let g := zfR cut 64 t.2; let f := numP cut 9007199254740992 g.2; (⟨k, t.1, g.1, f.1, []⟩, f.2))
  else if k = 4 then (let f := numP cut 9007199254740992 t.2; (⟨k, t.1, [], f.1, []⟩, f.2))
  else (⟨k, t.1, [], 0, []⟩, t.2)
def Rd.like (s t : Rd) : Prop := s.e = t.e ∧ (s.e = 0 → s.b = t.b)
theorem Rd.like.fail {s t : Rd} {c d : Bool} {x : Int} (h : s.like t) : (s.fail c x).like (t.fail d x) := by
  obtain ⟨h1, h2⟩ := h
  unfold Rd.fail Rd.like
  grind
theorem Rd.like.num {s t : Rd} {c d : Bool} {m : Nat} (h : s.like t) : (numP c m s).1 = (numP d m t).1 ∧ (numP c m s).2.like (numP d m t).2 := by
  have hf : ∀ x, (s.fail c x).like (t.fail d x) := fun x => h.fail
  obtain ⟨h1, h2⟩ := h
  unfold numP
  by_cases h0 : s.e = 0
  · rw [if_pos h0, if_pos (show t.e = 0 from h1 ▸ h0), h2 h0]
    cases numR m 0 0 t.b with
    | ok x => exact ⟨rfl, rfl, fun _ => rfl⟩
    | error x => exact ⟨rfl, hf x⟩
  · rw [if_neg h0, if_neg (h1 ▸ h0)]
    exact ⟨rfl, h1, h2⟩
theorem Rd.like.take {s t : Rd} {c d : Bool} {m : Nat} (h : s.like t) : (takeP c m s).1 = (takeP d m t).1 ∧ (takeP c m s).2.like (takeP d m t).2 := by
  have hf : ∀ x, (s.fail c x).like (t.fail d x) := fun x => h.fail
  obtain ⟨h1, h2⟩ := h
  unfold takeP
  by_cases h0 : s.e = 0
  · rw [if_pos h0, if_pos (show t.e = 0 from h1 ▸ h0), h2 h0]
    split
    · exact ⟨rfl, hf 10⟩
    · exact ⟨rfl, rfl, fun _ => rfl⟩
  · rw [if_neg h0, if_neg (h1 ▸ h0)]
    exact ⟨rfl, h1, h2⟩
theorem Rd.like.bytes {s t : Rd} {c d : Bool} {m : Nat} (h : s.like t) : (zfR c m s).1 = (zfR d m t).1 ∧ (zfR c m s).2.like (zfR d m t).2 := by
  have a := h.num (c := c) (d := d) (m := m)
  have := a.2.take (c := c) (d := d) (m := (numP c m s).1)
  unfold zfR
  rw [← a.1]
  exact this
theorem Rd.like.recs {s t : Rd} {c d : Bool} (h : s.like t) : ∀ k, (zkl c k s).1 = (zkl d k t).1 ∧ (zkl c k s).2.like (zkl d k t).2
  | 0 => ⟨rfl, h⟩
  | k + 1 => by
    obtain ⟨a, b⟩ := Rd.like.recs h (c := c) (d := d) k
    have e := b.bytes (c := c) (d := d) (m := 64)
    exact ⟨by simp only [zkl, a, e.1], e.2⟩
theorem Rd.like.fields {s t : Rd} {c d : Bool} (h : s.like t) (k : Nat) : (ziP c k s).1 = (ziP d k t).1 ∧ (ziP c k s).2.like (ziP d k t).2 := by
  obtain ⟨t1, t2⟩ := h.bytes (c := c) (d := d) (m := 64)
  obtain ⟨n1, n2⟩ := t2.num (c := c) (d := d) (m := 4)
  obtain ⟨r1, r2⟩ := n2.recs (c := c) (d := d) (numP c 4 (zfR c 64 s).2).1
  obtain ⟨g1, g2⟩ := t2.bytes (c := c) (d := d) (m := 64)
  obtain ⟨f1, f2⟩ := g2.num (c := c) (d := d) (m := 9007199254740992)
  obtain ⟨e1, e2⟩ := t2.num (c := c) (d := d) (m := 9007199254740992)
  unfold ziP
  simp only
  split
  · exact ⟨rfl, h⟩
  · split
    · rw [← n1, ← r1, ← t1]; exact ⟨rfl, r2⟩
    · split
      · rw [← t1, ← g1, ← f1]; exact ⟨rfl, f2⟩
      · split
        · rw [← t1, ← e1]; exact ⟨rfl, e2⟩
        · rw [← t1]; exact ⟨rfl, t2⟩





theorem ziU : ∀ (f : Nat) (s : List UInt8) (n : Nat), zct f s = some n → s.length ≤ 4 * n
  | 0, _, _, h => by simp [zct] at h
  | f + 1, s, n, h => by
    simp only [zct] at h
    split at h
    · rename_i h0; cases h; simp [h0]
    · split at h
      · cases h
      · simp only [Option.map_eq_some_iff] at h
        obtain ⟨m, hm, rfl⟩ := h
        have := ziU f _ m hm
        have h4 := (zfB s).2.1
        simp only [List.length_drop] at *
        omega
theorem name_len {s : List UInt8} (h : zdm s = true) : s.length ≤ 64 := by
  simp only [zdm, zfI, decide_eq_true_eq] at h
  cases e : zct (s.length + 1) s with
  | none => simp [e] at h
  | some n =>
    have := ziU _ s n e
    simp only [e] at h
    by_cases h16 : n > 16
    · simp [h16] at h
    · omega

structure zV where
  name : List UInt8
  base : Int
  recs : List (List UInt8)
  groups : List (List UInt8 × Int)
structure zav where
  l : List zV
  last : List (Int × Int × Int)
def zcn : zav := ⟨[], List.replicate 8 (0, 0, 0)⟩
abbrev groupD (g : List UInt8 × Int) : List D := [.str g.1, .int .i64 g.2]
abbrev groupsE (l : List (List UInt8 × Int)) : List (List D) := l.map groupD
def zV.next (x : zV) : Int := x.base + x.recs.length
def atF (n : List UInt8) : List zV → Nat → Option Nat
  | [], _ => none
  | x :: r, i => if (x.name == n) = true then some i else atF n r (i + 1)
def zjm (n : List UInt8) : List zV → Nat
  | [] => 0
  | x :: r => if Op.bytesLess x.name n = true then zjm n r + 1 else 0
def zgW (n : List UInt8) : List (List UInt8 × Int) → Nat
  | [] => 0
  | g :: r => if Op.bytesLess g.1 n = true then zgW n r + 1 else 0
abbrev TRes := Int × Int
def zbF (T : zav) (n : List UInt8) : TRes × zav :=
  if (atF n T.l 0).isSome then ((5, 0), T) else if 8 ≤ T.l.length then ((6, 0), T)
  else ((0, 0), { T with l := T.l.take (zjm n T.l) ++ ⟨n, 0, [], []⟩ :: T.l.drop (zjm n T.l) })
def zcX (t : List UInt8) (o : Int) : List (List UInt8) → List zcS
  | [] => []
  | r :: l => ⟨t, o, r⟩ :: zcX t (o + 1) l
def zdy (T : zav) (i : Nat) (x : zV) (o : TOp) : TRes × List zcS × zav :=
  if 64 < x.recs.length + o.recs.length ∨ 9007199254740992 - (o.recs.length : Int) < x.next then ((71, 0), [], T)
  else ((0, x.next), zcX x.name x.next o.recs, { T with l := T.l.set i { x with recs := x.recs ++ o.recs } })
def hadG (n : List UInt8) (l : List (List UInt8 × Int)) : Option Int := match l[zgW n l]? with
  | some g => if (g.1 == n) = true then some g.2 else none
  | none => none
def zcj (T : zav) (i : Nat) (x : zV) (o : TOp) : TRes × zav :=
  if o.offset < (hadG o.group x.groups).getD 0 ∨ x.next < o.offset then ((72, 0), T)
  else if (hadG o.group x.groups).isSome = false ∧ 8 ≤ x.groups.length then ((6, 0), T)
  else ((0, o.offset), { T with l := T.l.set i { x with groups := x.groups.take (zgW o.group x.groups) ++ (o.group, o.offset) :: x.groups.drop (zgW o.group x.groups + if (hadG o.group x.groups).isSome then 1 else 0) } })
def zjh (T : zav) (i : Nat) (x : zV) (o : TOp) : TRes × zav :=
  if o.offset < x.base ∨ x.next < o.offset then ((72, 0), T)
  else ((0, o.offset), { T with l := T.l.set i { x with recs := x.recs.drop (o.offset - x.base).toNat, base := o.offset } })
def zbK (T : zav) (o : TOp) : TRes × List zcS × zav :=
  if zaB zdm o ≠ 0 then ((zaB zdm o, 0), [], T)
  else if o.kind = 0 then ((0, 0), [], T)
  else if o.kind = 1 then ((zbF T o.topic).1, [], (zbF T o.topic).2)
  else match atF o.topic T.l 0 with
    | none => ((4, 0), [], T)
    | some i => match T.l[i]? with
      | none => ((4, 0), [], T)
      | some x => if o.kind = 2 then zdy T i x o
        else if o.kind = 3 then ((zcj T i x o).1, [], (zcj T i x o).2)
        else ((zjh T i x o).1, [], (zjh T i x o).2)
def zaG (T : zav) (c tm : Int) (o : TOp) : TRes × List zcS × Bool × zav :=
  if c < 0 ∨ 8 ≤ c ∨ tm < 1 ∨ 9007199254740992 < tm then ((1, 0), [], false, T)
  else if tm = (T.last.getD c.toNat (0, 0, 0)).1 then ((T.last.getD c.toNat (0, 0, 0)).2, [], false, T)
  else if tm < (T.last.getD c.toNat (0, 0, 0)).1 then ((7, 0), [], false, T)
  else ((zbK T o).1, (zbK T o).2.1, true, { (zbK T o).2.2 with last := (zbK T o).2.2.last.set c.toNat (tm, (zbK T o).1.1, (zbK T o).1.2) })
theorem doesF_last (T : zav) (o : TOp) : (zbK T o).2.2.last = T.last := by
  unfold zbK zbF zdy zcj zjh
  repeat' (first | rfl | split)
theorem zjA (t : List UInt8) : ∀ (l : List (List UInt8)) (o : Int), (zcX t o l).length = l.length
  | [], _ => rfl
  | _ :: l, o => by simp [zcX, zjA t l]
theorem zis (t : List UInt8) : ∀ (l : List (List UInt8)) (o : Int) (r : List UInt8), zcX t o (l ++ [r]) = zcX t o l ++ [⟨t, o + l.length, r⟩]
  | [], o, r => by simp [zcX]
  | a :: l, o, r => by
    simp only [List.cons_append, zcX, zis t l (o + 1) r, List.length_cons]
    congr 3
    simp; omega
abbrev topD (x : zV) : List D := [.str x.name, .int .i64 x.base, .slice (zbx x.recs), .slice (groupsE x.groups)]
abbrev topsE (l : List zV) : List (List D) := l.map topD
abbrev flatA (es : List (List D)) : List AV := es.flatten.map .d
structure TopI (x : zV) : Prop where
  base : 0 ≤ x.base
  next : x.next ≤ 9007199254740992
  recs : x.recs.length ≤ 64
  groups : x.groups.length ≤ 8
  name : x.name.length ≤ 64
  each : ∀ r ∈ x.recs, r.length ≤ 64
  gs : ∀ g ∈ x.groups, g.1.length ≤ 64 ∧ 0 ≤ g.2 ∧ g.2 ≤ 9007199254740992
structure zeH (T : zav) : Prop where
  len : T.l.length ≤ 8
  tops : ∀ x ∈ T.l, TopI x
theorem zeH.none : zeH zcn := ⟨by simp [zcn], by simp [zcn]⟩
theorem check0 {o : TOp} (h : zaB zdm o = 0) : 0 ≤ o.offset ∧ o.offset ≤ 9007199254740992 ∧ (o.kind ≠ 0 → zdm o.topic = true) ∧ (o.kind = 3 → zdm o.group = true) ∧ (o.kind = 2 → ∀ r ∈ o.recs, r.length ≤ 64) := by
  unfold zaB at h
  split at h
  · cases h
  · split at h
    · cases h
    · rename_i h2
      split at h
      · cases h
      · rename_i h3
        split at h
        · cases h
        · rename_i h4
          split at h
          · cases h
          · rename_i h5
            refine ⟨by omega, by omega, fun hk => by simpa [hk] using h2, fun hk => by simpa [hk] using h3, fun hk r hr => ?_⟩
            have : ¬ (o.recs.any (fun r => decide (r.length > 64)) = true) := fun e => h4 ⟨hk, .inr (.inr e)⟩
            simp only [List.any_eq_true, decide_eq_true_eq, not_exists, not_and] at this
            have := this r hr
            omega
theorem zgS {α : Type} {l : List α} {i : Nat} {x y : α} (h : y ∈ l.set i x) : y ∈ l ∨ y = x := List.mem_or_eq_of_mem_set h
theorem doesI {T : zav} (h : zeH T) (o : TOp) : zeH (zbK T o).2.2 := by
  unfold zbK
  split
  · exact h
  · rename_i hc
    have hc : zaB zdm o = 0 := by simpa using hc
    obtain ⟨q1, q2, q3, q4, q5⟩ := check0 hc
    split
    · exact h
    · rename_i k0
      have hn := name_len (q3 k0)
      split
      · unfold zbF
        split
        · exact h
        · split
          · exact h
          · refine ⟨by simp only [List.length_append, List.length_take, List.length_cons, List.length_drop]; omega, fun x hx => ?_⟩
            rcases List.mem_append.1 hx with hx | hx
            · exact h.tops x (List.mem_of_mem_take hx)
            · rcases List.mem_cons.1 hx with rfl | hx
              · exact ⟨by simp, by simp [zV.next], by simp, by simp, hn, by simp, by simp⟩
              · exact h.tops x (List.mem_of_mem_drop hx)
      · split
        · exact h
        · rename_i i _
          split
          · exact h
          · rename_i x hx
            have hX := h.tops x (List.mem_of_getElem? hx)
            have a1 := hX.base; have a2 := hX.next; have a3 := hX.recs; have a4 := hX.groups
            split
            · rename_i k2
              unfold zdy
              split
              · exact h
              · rename_i hq
                refine ⟨by simpa using h.len, fun y hy => ?_⟩
                rcases zgS hy with hy | rfl
                · exact h.tops y hy
                · have e : x.next = x.base + x.recs.length := rfl
                  refine ⟨a1, by simp only [zV.next, List.length_append]; omega, by simp; omega, a4, hX.name, fun r hr => ?_, hX.gs⟩
                  rcases List.mem_append.1 hr with hr | hr
                  · exact hX.each r hr
                  · exact q5 k2 r hr
            · split
              · rename_i k3
                have hg := name_len (q4 k3)
                unfold zcj
                split
                · exact h
                · split
                  · exact h
                  · rename_i h6 h7
                    refine ⟨by simpa using h.len, fun y hy => ?_⟩
                    rcases zgS hy with hy | rfl
                    · exact h.tops y hy
                    · refine ⟨a1, a2, a3, ?_, hX.name, hX.each, fun g hg' => ?_⟩
                      · simp only [List.length_append, List.length_take, List.length_cons, List.length_drop]
                        cases hh : hadG o.group x.groups with
                        | none => simp [hh] at h7 ⊢; omega
                        | some v =>
                          have : zgW o.group x.groups < x.groups.length := by
                            rw [hadG] at hh
                            split at hh
                            · rename_i g0 hg0; exact (List.getElem?_eq_some_iff.1 hg0).1
                            · cases hh
                          simp; omega
                      · rcases List.mem_append.1 hg' with hg' | hg'
                        · exact hX.gs g (List.mem_of_mem_take hg')
                        · rcases List.mem_cons.1 hg' with rfl | hg'
                          · exact ⟨hg, q1, q2⟩
                          · exact hX.gs g (List.mem_of_mem_drop hg')
              · unfold zjh
                split
                · exact h
                · rename_i h6
                  refine ⟨by simpa using h.len, fun y hy => ?_⟩
                  rcases zgS hy with hy | rfl
                  · exact h.tops y hy
                  · have e : x.next = x.base + x.recs.length := rfl
                    exact ⟨q1, by simp only [zV.next, List.length_drop]; omega, by simp; omega, a4, hX.name, fun r hr => hX.each r (List.mem_of_mem_drop hr), hX.gs⟩
theorem applyI {T : zav} (h : zeH T) (c tm : Int) (o : TOp) : zeH (zaG T c tm o).2.2.2 := by
  unfold zaG
  split
  · exact h
  · split
    · exact h
    · split
      · exact h
      · exact ⟨(doesI h o).len, (doesI h o).tops⟩

theorem less_lt : ∀ (x y : List UInt8), Op.bytesLess x y = decide (x < y)
  | [], [] => by simp [Op.bytesLess]
  | _ :: _, [] => by simp [Op.bytesLess]
  | [], _ :: _ => by simp [Op.bytesLess]
  | a :: x, b :: y => by
    rw [Op.bytesLess, less_lt x y]
    simp only [List.cons_lt_cons_iff]
    by_cases h1 : a < b <;> by_cases h2 : a = b <;> by_cases h3 : x < y <;> simp [h1, h2, h3]
abbrev ltN (a b : List UInt8) : Prop := Op.bytesLess a b = true
theorem ltN_iff {a b : List UInt8} : ltN a b ↔ a < b := by rw [ltN, less_lt]; simp
theorem ltN_irr (a : List UInt8) : ¬ ltN a a := by rw [ltN_iff]; exact List.lt_irrefl a
theorem ltN_trans {a b c : List UInt8} (h : ltN a b) (h' : ltN b c) : ltN a c := by rw [ltN_iff] at *; exact List.lt_trans h h'
theorem ltN_total {a b : List UInt8} (h : ¬ ltN a b) (hne : a ≠ b) : ltN b a := by
  rw [ltN_iff] at *
  have h1 : b ≤ a := List.not_lt.1 h
  rcases List.le_iff_lt_or_eq.1 h1 with h2 | h2
  · exact h2
  · exact absurd h2.symm hne
section

variable {α : Type} (f : α → List UInt8)

def ziF (n : List UInt8) : List α → Nat
  | [] => 0
  | x :: r => if Op.bytesLess (f x) n = true then ziF n r + 1 else 0
def zfm (l : List α) : Prop := (l.map f).Pairwise ltN
variable {f}

theorem zfm.nodup {l : List α} (h : zfm f l) : (l.map f).Nodup := by
  refine List.Pairwise.imp (fun {a b} hab e => ?_) h
  subst e
  exact ltN_irr _ hab
theorem zfu {a : α} {r : List α} : zfm f (a :: r) ↔ (∀ b ∈ r, ltN (f a) (f b)) ∧ zfm f r := by
  rw [zfm, List.map_cons, List.pairwise_cons]
  constructor
  · rintro ⟨h1, h2⟩; exact ⟨fun b hb => h1 _ (List.mem_map_of_mem hb), h2⟩
  · rintro ⟨h1, h2⟩
    refine ⟨fun b hb => ?_, h2⟩
    obtain ⟨c, hc, rfl⟩ := List.mem_map.1 hb
    exact h1 c hc
theorem ziE {n : List UInt8} {x : α} (hx : f x = n) : ∀ {l : List α}, zfm f l → (∀ a ∈ l, f a ≠ n) → zfm f (l.take (ziF f n l) ++ x :: l.drop (ziF f n l))
  | [], _, _ => by simp [zfm, ziF]
  | a :: r, h, hn => by
    obtain ⟨h1, h2⟩ := zfu.1 h
    simp only [ziF]
    split
    · rename_i ha
      simp only [List.take_succ_cons, List.drop_succ_cons, List.cons_append]
      refine zfu.2 ⟨fun b hb => ?_, ziE hx h2 fun a ha => hn a (List.mem_cons_of_mem _ ha)⟩
      rcases List.mem_append.1 hb with hb | hb
      · exact h1 b (List.mem_of_mem_take hb)
      · rcases List.mem_cons.1 hb with rfl | hb
        · rw [hx]; exact ha
        · exact h1 b (List.mem_of_mem_drop hb)
    · rename_i ha
      simp only [List.take_zero, List.drop_zero, List.nil_append]
      have hna : ltN n (f a) := ltN_total ha (hn a List.mem_cons_self)
      refine zfu.2 ⟨fun b hb => ?_, h⟩
      rw [hx]
      rcases List.mem_cons.1 hb with rfl | hb
      · exact hna
      · exact ltN_trans hna (h1 b hb)
theorem zfc {n : List UInt8} : ∀ {l : List α}, zfm f l → ∀ {x : α}, x ∈ l → f x = n → l[ziF f n l]? = some x
  | [], _, _, h, _ => by cases h
  | a :: r, h, x, hx, e => by
    obtain ⟨h1, h2⟩ := zfu.1 h
    simp only [ziF]
    rcases List.mem_cons.1 hx with rfl | hx
    · rw [if_neg (by rw [e]; exact ltN_irr n)]; rfl
    · have := h1 x hx
      rw [e] at this
      rw [if_pos this, List.getElem?_cons_succ]
      exact zfc h2 hx e
theorem sortK_set {l : List α} (h : zfm f l) {k : Nat} {x y : α} (hx : l[k]? = some x) (e : f y = f x) : zfm f (l.set k y) := by
  rw [zfm, List.map_set, e]
  have : (l.map f).set k (f x) = l.map f := by
    apply List.ext_getElem?
    intro i
    rw [List.getElem?_set]
    split
    · rename_i hi
      subst hi
      split
      · rw [List.getElem?_map, hx]; rfl
      · rename_i hk
        have := (List.getElem?_eq_some_iff.1 hx).1
        simp at hk; omega
    · rfl
  rw [this]; exact h
theorem sortK_inj {l : List α} (h : zfm f l) {x y : α} (hx : x ∈ l) (hy : y ∈ l) (e : f x = f y) : x = y := by
  have h1 := zfc h hx rfl
  have h2 := zfc h hy e.symm
  rw [h1] at h2; exact Option.some.inj h2
end

theorem lessN_K (n : List UInt8) : ∀ l, zjm n l = ziF zV.name n l
  | [] => rfl
  | x :: r => by simp only [zjm, ziF, lessN_K n r]
theorem zks (n : List UInt8) : ∀ l, zgW n l = ziF Prod.fst n l
  | [] => rfl
  | x :: r => by simp only [zgW, ziF, zks n r]

def zfW (n : List UInt8) : List (List UInt8 × Int) → Nat → Option (Nat × Int)
  | [], _ => none
  | g :: r, i => if n = g.1 then some (i, g.2) else zfW n r (i + 1)
def putA (n : List UInt8) (v : Int) (l : List (List UInt8 × Int)) : List (List UInt8 × Int) := match zfW n l 0 with
  | some (k, _) => l.set k (n, v)
  | none => l ++ [(n, v)]
theorem zhg {n : List UInt8} : ∀ {l : List (List UInt8 × Int)} {i k : Nat} {v : Int}, zfW n l i = some (k, v) → ∃ j, k = i + j ∧ l[j]? = some (n, v)
  | [], _, _, _, h => by simp [zfW] at h
  | g :: r, i, k, v, h => by
    simp only [zfW] at h
    split at h
    · rename_i e; cases h; exact ⟨0, rfl, by rw [e]; rfl⟩
    · obtain ⟨j, h1, h2⟩ := zhg h
      exact ⟨j + 1, by omega, by simpa using h2⟩
theorem zhh {n : List UInt8} : ∀ {l : List (List UInt8 × Int)} {i : Nat}, zfW n l i = none → ∀ g ∈ l, g.1 ≠ n
  | [], _, _, g, hg => by cases hg
  | a :: r, i, h, g, hg => by
    simp only [zfW] at h
    split at h
    · cases h
    · rename_i e
      rcases List.mem_cons.1 hg with rfl | hg
      · exact fun e' => e e'.symm
      · exact zhh h g hg
structure GR (G L : List (List UInt8 × Int)) : Prop where
  len : G.length = L.length
  sort : zfm Prod.fst L
  nod : (G.map Prod.fst).Nodup
  mem : ∀ a, a ∈ G ↔ a ∈ L
theorem GR.nil : GR [] [] := ⟨rfl, by simp [zfm], by simp, by simp⟩
theorem zgm {α β : Type} {f : α → β} : ∀ {l : List α}, (l.map f).Nodup → ∀ {i j : Nat} {a b : α}, l[i]? = some a → l[j]? = some b → f a = f b → i = j := by
  intro l h i j a b hi hj e
  have h1 : (l.map f)[i]? = some (f a) := by rw [List.getElem?_map, hi]; rfl
  have h2 : (l.map f)[j]? = some (f a) := by rw [List.getElem?_map, hj, e]; rfl
  obtain ⟨g1, g2⟩ := List.getElem?_eq_some_iff.1 h1
  obtain ⟨g3, g4⟩ := List.getElem?_eq_some_iff.1 h2
  rcases Nat.lt_trichotomy i j with hij | hij | hij
  · exact absurd (g2.trans g4.symm) (List.pairwise_iff_getElem.1 h i j g1 g3 hij)
  · exact hij
  · exact absurd (g4.trans g2.symm) (List.pairwise_iff_getElem.1 h j i g3 g1 hij)
theorem GR.had {G L : List (List UInt8 × Int)} (h : GR G L) (n : List UInt8) : hadG n L = (zfW n G 0).map Prod.snd := by
  cases hf : zfW n G 0 with
  | none =>
    have h1 := zhh hf
    unfold hadG
    split
    · rename_i g hg
      rw [if_neg]; rfl
      intro e
      exact h1 g ((h.mem g).2 (List.mem_of_getElem? hg)) (by simpa using e)
    · rfl
  | some q =>
    obtain ⟨k, v⟩ := q
    obtain ⟨j, rfl, hj⟩ := zhg hf
    have h2 := (h.mem _).1 (List.mem_of_getElem? hj)
    unfold hadG
    rw [zks, zfc h.sort h2 rfl]
    simp
theorem zbH {α : Type} {l : List α} {k : Nat} {x y : α} : y ∈ l.set k x → y = x ∨ ∃ j, j ≠ k ∧ l[j]? = some y := by
  intro h
  obtain ⟨j, hj⟩ := List.mem_iff_getElem?.1 h
  by_cases e : j = k
  · subst e
    have hl : j < l.length := by have := (List.getElem?_eq_some_iff.1 hj).1; simpa using this
    rw [List.getElem?_set_self hl] at hj
    exact .inl (Option.some.inj hj).symm
  · rw [List.getElem?_set_ne (Ne.symm e)] at hj
    exact .inr ⟨j, e, hj⟩
theorem zfy {α : Type} {l : List α} {j k : Nat} {x y : α} (h : l[j]? = some y) (e : j ≠ k) : y ∈ l.set k x :=
  List.mem_iff_getElem?.2 ⟨j, by rw [List.getElem?_set_ne (Ne.symm e)]; exact h⟩
theorem mem_set_self' {α : Type} {l : List α} {k : Nat} {x y : α} (h : l[k]? = some y) : x ∈ l.set k x :=
  List.mem_iff_getElem?.2 ⟨k, by rw [List.getElem?_set_self (List.getElem?_eq_some_iff.1 h).1]⟩
theorem zkd {α : Type} {l : List α} {k : Nat} {x y : α} (h : l[k]? = some y) : l.take k ++ x :: l.drop (k + 1) = l.set k x := by
  rw [List.set_eq_take_append_cons_drop, if_pos (List.getElem?_eq_some_iff.1 h).1]
theorem ziC {α : Type} {f : α → List UInt8} {l : List α} {k : Nat} {x y : α} (hx : l[k]? = some x) (e : f y = f x) : (l.set k y).map f = l.map f := by
  rw [List.map_set, e]
  apply List.ext_getElem?
  intro i
  rw [List.getElem?_set]
  split
  · rename_i hi
    subst hi
    split
    · rw [List.getElem?_map, hx]; rfl
    · rename_i hk
      have := (List.getElem?_eq_some_iff.1 hx).1
      simp at hk; omega
  · rfl
theorem GR.put {G L : List (List UInt8 × Int)} (h : GR G L) (n : List UInt8) (v : Int) : GR (putA n v G) (L.take (zgW n L) ++ (n, v) :: L.drop (zgW n L + if (hadG n L).isSome then 1 else 0)) := by
  have hh := h.had n
  unfold putA
  cases hf : zfW n G 0 with
  | none =>
    have h1 := zhh hf
    have hL : ∀ a ∈ L, a.1 ≠ n := fun a ha => h1 a ((h.mem a).2 ha)
    rw [hf] at hh
    rw [hh]
    simp only [Option.map_none, Option.isSome_none, Bool.false_eq_true, if_false, Nat.add_zero]
    refine ⟨?_, ?_, ?_, fun a => ?_⟩
    · have := List.take_append_drop (zgW n L) L
      have h3 := congrArg List.length this
      have h4 := h.len
      simp only [List.length_append, List.length_cons, List.length_nil] at h3 ⊢; omega
    · rw [zks]; exact ziE (f := Prod.fst) (x := (n, v)) rfl h.sort hL
    · rw [List.map_append, List.nodup_append]
      refine ⟨h.nod, by simp, ?_⟩
      intro a ha b hb
      simp at hb; subst hb
      obtain ⟨c, hc, rfl⟩ := List.mem_map.1 ha
      exact h1 c hc
    · have := List.take_append_drop (zgW n L) L
      rw [List.mem_append, h.mem]
      constructor
      · rintro (ha | ha)
        · rw [← this] at ha
          rcases List.mem_append.1 ha with ha | ha <;> simp [ha]
        · simp at ha; subst ha; simp
      · intro ha
        rcases List.mem_append.1 ha with ha | ha
        · exact .inl (List.mem_of_mem_take ha)
        · rcases List.mem_cons.1 ha with rfl | ha
          · simp
          · exact .inl (List.mem_of_mem_drop ha)
  | some q =>
    obtain ⟨k, w⟩ := q
    obtain ⟨j, rfl, hj⟩ := zhg hf
    have hm := (h.mem _).1 (List.mem_of_getElem? hj)
    have hL := zfc h.sort hm rfl
    rw [hf] at hh
    rw [hh]
    simp only [Option.map_some, Option.isSome_some, if_true, Nat.zero_add]
    rw [zks]
    simp only at hL
    rw [zkd hL]
    refine ⟨by simp [h.len], sortK_set h.sort hL rfl, by rw [ziC (f := Prod.fst) (y := (n, v)) hj rfl]; exact h.nod, fun a => ?_⟩
    constructor
    · intro ha
      rcases zbH ha with rfl | ⟨i, hi, hx⟩
      · exact mem_set_self' hL
      · have := (h.mem a).1 (List.mem_of_getElem? hx)
        obtain ⟨i2, hi2⟩ := List.mem_iff_getElem?.1 this
        refine zfy hi2 fun e => hi ?_
        subst e
        rw [hL] at hi2; cases hi2
        exact zgm h.nod hx hj rfl
    · intro ha
      rcases zbH ha with rfl | ⟨i, hi, hx⟩
      · exact mem_set_self' hj
      · have := (h.mem a).2 (List.mem_of_getElem? hx)
        obtain ⟨i2, hi2⟩ := List.mem_iff_getElem?.1 this
        refine zfy hi2 fun e => hi ?_
        subst e
        rw [hj] at hi2; cases hi2
        exact zgm h.sort.nodup hx hL rfl

structure zdV where
  x : zV
  id : Nat
  g : Nat
  t : Nat
abbrev zdV.name (p : zdV) : List UInt8 := p.x.name
def zeo (n : List UInt8) : List zdV → Nat → Option (Nat × zdV)
  | [], _ => none
  | p :: r, i => if n = p.x.name then some (i, p) else zeo n r (i + 1)
theorem zjL {n : List UInt8} : ∀ {l : List zdV} {i k : Nat} {p : zdV}, zeo n l i = some (k, p) → ∃ j, k = i + j ∧ l[j]? = some p ∧ p.x.name = n
  | [], _, _, _, h => by simp [zeo] at h
  | g :: r, i, k, v, h => by
    simp only [zeo] at h
    split at h
    · rename_i e; cases h; exact ⟨0, rfl, rfl, e.symm⟩
    · obtain ⟨j, h1, h2, h3⟩ := zjL h
      exact ⟨j + 1, by omega, by simpa using h2, h3⟩
theorem zhf {n : List UInt8} : ∀ {l : List zdV} {i : Nat}, zeo n l i = none → ∀ p ∈ l, p.x.name ≠ n
  | [], _, _, g, hg => by cases hg
  | a :: r, i, h, g, hg => by
    simp only [zeo] at h
    split at h
    · cases h
    · rename_i e
      rcases List.mem_cons.1 hg with rfl | hg
      · exact fun e' => e e'.symm
      · exact zhf h g hg
structure TR (x y : zV) : Prop where
  name : x.name = y.name
  base : x.base = y.base
  recs : x.recs = y.recs
  gr : GR x.groups y.groups
theorem TR.next {x y : zV} (h : TR x y) : x.next = y.next := by rw [zV.next, h.base, h.recs]; rfl
structure Rel (X : List zdV) (T : List zV) : Prop where
  len : X.length = T.length
  sort : zfm zV.name T
  nod : (X.map zdV.name).Nodup
  fw : ∀ p ∈ X, ∃ y ∈ T, TR p.x y
  bw : ∀ y ∈ T, ∃ p ∈ X, TR p.x y
theorem Rel.nil : Rel [] [] := ⟨rfl, by simp [zfm], by simp, by simp, by simp⟩
theorem zkH {n : List UInt8} : ∀ {l : List zV} {i k : Nat}, atF n l i = some k → ∃ j y, k = i + j ∧ l[j]? = some y ∧ y.name = n
  | [], _, _, h => by simp [atF] at h
  | x :: r, i, k, h => by
    simp only [atF] at h
    split at h
    · rename_i e; cases h; exact ⟨0, x, rfl, rfl, by simpa using e⟩
    · obtain ⟨j, y, h1, h2, h3⟩ := zkH h
      exact ⟨j + 1, y, by omega, by simpa using h2, h3⟩
theorem atF_none {n : List UInt8} : ∀ {l : List zV} {i : Nat}, atF n l i = none → ∀ y ∈ l, y.name ≠ n
  | [], _, _, g, hg => by cases hg
  | a :: r, i, h, g, hg => by
    simp only [atF] at h
    split at h
    · cases h
    · rename_i e
      rcases List.mem_cons.1 hg with rfl | hg
      · simpa using e
      · exact atF_none h g hg
theorem Rel.no {X : List zdV} {T : List zV} (h : Rel X T) {n : List UInt8} (hf : zeo n X 0 = none) : atF n T 0 = none := by
  cases ha : atF n T 0 with
  | none => rfl
  | some k =>
    obtain ⟨j, y, _, h2, h3⟩ := zkH ha
    obtain ⟨p, hp, hr⟩ := h.bw y (List.mem_of_getElem? h2)
    exact absurd (hr.name.trans h3) (zhf hf p hp)
theorem Rel.yes {X : List zdV} {T : List zV} (h : Rel X T) {n : List UInt8} {i : Nat} {p : zdV} (hf : zeo n X 0 = some (i, p)) : X[i]? = some p ∧ p.x.name = n ∧ ∃ k y, atF n T 0 = some k ∧ T[k]? = some y ∧ TR p.x y := by
  obtain ⟨j, e, h1, h2⟩ := zjL hf
  rw [Nat.zero_add] at e; subst e
  refine ⟨h1, h2, ?_⟩
  obtain ⟨y, hy, hr⟩ := h.fw p (List.mem_of_getElem? h1)
  cases ha : atF n T 0 with
  | none => exact absurd (hr.name.symm.trans h2) (atF_none ha y hy)
  | some k =>
    obtain ⟨j, z, e, h3, h4⟩ := zkH ha
    rw [Nat.zero_add] at e; subst e
    have : z = y := sortK_inj h.sort (List.mem_of_getElem? h3) hy (h4.trans (h2.symm.trans hr.name))
    subst this
    exact ⟨k, z, rfl, h3, hr⟩
theorem Rel.set {X : List zdV} {T : List zV} (h : Rel X T) {i k : Nat} {p p' : zdV} {y y' : zV} (hp : X[i]? = some p) (hy : T[k]? = some y) (hr : TR p.x y) (hr' : TR p'.x y') (hn : p'.x.name = p.x.name) : Rel (X.set i p') (T.set k y') := by
  have hn' : y'.name = y.name := hr'.name.symm.trans (hn.trans hr.name)
  refine ⟨by simp [h.len], sortK_set h.sort hy hn', by rw [ziC hp hn]; exact h.nod, fun q hq => ?_, fun z hz => ?_⟩
  · rcases zbH hq with rfl | ⟨j, hj, hx⟩
    · exact ⟨y', mem_set_self' hy, hr'⟩
    · obtain ⟨z, hz, hrz⟩ := h.fw q (List.mem_of_getElem? hx)
      obtain ⟨j2, hj2⟩ := List.mem_iff_getElem?.1 hz
      refine ⟨z, zfy hj2 fun e => hj ?_, hrz⟩
      subst e
      rw [hy] at hj2; cases hj2
      exact zgm h.nod hx hp (hrz.name.trans hr.name.symm)
  · rcases zbH hz with rfl | ⟨j, hj, hx⟩
    · exact ⟨p', mem_set_self' hp, hr'⟩
    · obtain ⟨q, hq, hrq⟩ := h.bw z (List.mem_of_getElem? hx)
      obtain ⟨j2, hj2⟩ := List.mem_iff_getElem?.1 hq
      refine ⟨q, zfy hj2 fun e => hj ?_, hrq⟩
      subst e
      rw [hp] at hj2; cases hj2
      exact zgm h.sort.nodup hx hy (hrq.name.symm.trans hr.name)
theorem Rel.add {X : List zdV} {T : List zV} (h : Rel X T) {n : List UInt8} (hf : zeo n X 0 = none) {p : zdV} {y : zV} (hr : TR p.x y) (hn : y.name = n) : Rel (X ++ [p]) (T.take (zjm n T) ++ y :: T.drop (zjm n T)) := by
  have h1 := zhf hf
  have hT : ∀ a ∈ T, a.name ≠ n := fun a ha e => by
    obtain ⟨q, hq, hrq⟩ := h.bw a ha
    exact h1 q hq (hrq.name.trans e)
  have htd := List.take_append_drop (zjm n T) T
  refine ⟨?_, ?_, ?_, fun q hq => ?_, fun z hz => ?_⟩
  · have h3 := congrArg List.length htd
    have h4 := h.len
    simp only [List.length_append, List.length_cons, List.length_nil] at h3 ⊢; omega
  · rw [lessN_K]; exact ziE hn h.sort hT
  · rw [List.map_append, List.nodup_append]
    refine ⟨h.nod, by simp, ?_⟩
    intro a ha b hb
    simp at hb; subst hb
    obtain ⟨c, hc, rfl⟩ := List.mem_map.1 ha
    have : p.x.name = n := hr.name.trans hn
    intro e
    exact h1 c hc (e.trans this)
  · rcases List.mem_append.1 hq with hq | hq
    · obtain ⟨z, hz, hrz⟩ := h.fw q hq
      rw [← htd] at hz
      refine ⟨z, ?_, hrz⟩
      rcases List.mem_append.1 hz with hz | hz <;> simp [hz]
    · simp at hq; subst hq
      exact ⟨y, by simp, hr⟩
  · rcases List.mem_append.1 hz with hz | hz
    · obtain ⟨q, hq, hrq⟩ := h.bw z (List.mem_of_mem_take hz)
      exact ⟨q, by simp [hq], hrq⟩
    · rcases List.mem_cons.1 hz with rfl | hz
      · exact ⟨p, by simp, hr⟩
      · obtain ⟨q, hq, hrq⟩ := h.bw z (List.mem_of_mem_drop hz)
        exact ⟨q, by simp [hq], hrq⟩

end Go.AW
