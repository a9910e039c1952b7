/- How a number is put: seven bits a byte. No program in sight. -/
import Derived.IntWalk
import Derived.Test.YtaocmalhjfakdaaGreatAwEnd
import Derived.Test.YtaocmalhjfakdaaGreatAwFun
import GoSem.Core.Utf8
set_option linter.all false
namespace Go.AW

def zbQ (n : Nat) : List UInt8 := if n < 128 then [UInt8.ofNat n] else UInt8.ofNat (n % 128 + 128) :: zbQ (n / 128)
termination_by n
decreasing_by omega

theorem zfX {n : Nat} (h : n < 128) : zbQ n = [UInt8.ofNat n] := by rw [zbQ, if_pos h]
theorem zkB {n : Nat} (h : ¬ n < 128) : zbQ n = UInt8.ofNat (n % 128 + 128) :: zbQ (n / 128) := by rw [zbQ, if_neg h]
theorem numB_len : ∀ (k n : Nat), n < 128 ^ (k + 1) → 1 ≤ (zbQ n).length ∧ (zbQ n).length ≤ k + 1
  | 0, n, h => by rw [zfX (by simpa using h)]; simp
  | k + 1, n, h => by
    by_cases hs : n < 128
    · rw [zfX hs]; simp
    · rw [zkB hs]
      have := numB_len k (n / 128) (by rw [Nat.div_lt_iff_lt_mul (by omega)]; rw [Nat.pow_succ] at h; exact h)
      simp; omega
theorem zZ {n : Nat} (h : n < 18446744073709551616) : 1 ≤ (zbQ n).length ∧ (zbQ n).length ≤ 10 := numB_len 9 n (by omega)

theorem or128 : ∀ x : Fin 256, (BitVec.ofInt 8 (x.val : Int) ||| BitVec.ofInt 8 128).toNat = x.val % 128 + 128 := by decide +kernel
theorem wrap8 (n : Nat) : IntKind.u8.wrap (n : Int) = ((n % 256 : Nat) : Int) := by
  simp [IntKind.wrap, IntKind.signed, IntKind.bits]
theorem zkl {n : Nat} (h : n < 256) : IntKind.u8.wrap (n : Int) = (n : Int) := by rw [wrap8, Nat.mod_eq_of_lt h]
theorem zcH {n : Nat} (h : n < 18446744073709551616) : IntKind.u64.wrap (n : Int) = (n : Int) := by
  simp [IntKind.wrap, IntKind.signed, IntKind.bits]
  omega
theorem zam {n : Int} (h1 : -9223372036854775808 ≤ n) (h2 : n ≤ 9223372036854775807) : IntKind.i64.wrap n = n := IntWalk.i64_in n ⟨h1, h2⟩
theorem zjm {n : Nat} (h : n < 256) : ((UInt8.ofNat n).toNat : Int) = (n : Int) := by
  simp; omega

structure TOp where
  kind : Int
  topic : List UInt8
  group : List UInt8
  offset : Int
  recs : List (List UInt8)
deriving DecidableEq

def zK (rs : List (List UInt8)) : List (List D) := rs.map fun r => [D.slice (bcs r)]
def opA (o : TOp) : AV := .agg [.d (.int .i64 o.kind), .d (.str o.topic), .d (.str o.group), .d (.int .i64 o.offset), .d (.slice (zK o.recs))]
def noOp : TOp := ⟨0, [], [], 0, []⟩

theorem zgX (rs : List (List UInt8)) : ∀ e ∈ zK rs, e.length = 1 := by
  intro e he
  obtain ⟨r, _, rfl⟩ := List.mem_map.1 he
  rfl
theorem zo (rs : List (List UInt8)) : (zK rs).length = rs.length := by simp [zK]
theorem zgd {rs : List (List UInt8)} {k : Nat} {r : List UInt8} (h : rs[k]? = some r) : (zK rs)[k]? = some [D.slice (bcs r)] := by simp [zK, h]

def onlyF (o : TOp) : TOp :=
  if o.kind = 1 then { noOp with kind := o.kind, topic := o.topic }
  else if o.kind = 2 then { noOp with kind := o.kind, topic := o.topic, recs := o.recs }
  else if o.kind = 3 then { noOp with kind := o.kind, topic := o.topic, group := o.group, offset := o.offset }
  else if o.kind = 4 then { noOp with kind := o.kind, topic := o.topic, offset := o.offset }
  else { noOp with kind := o.kind }
def zeh (o : TOp) : Bool := decide (0 ≤ o.kind ∧ o.kind ≤ 4)
def zaD (name : List UInt8 → Bool) (o : TOp) : Int :=
  if zeh o = false ∨ o ≠ onlyF o then 60
  else if o.kind ≠ 0 ∧ name o.topic = false then 61
  else if o.kind = 3 ∧ name o.group = false then 61
  else if o.kind = 2 ∧ (o.recs.length < 1 ∨ o.recs.length > 4 ∨ o.recs.any (fun r => decide (r.length > 64)) = true) then 62
  else if o.offset < 0 ∨ o.offset > 9007199254740992 then 60
  else 0

def zjI (x : List UInt8) : List UInt8 := zbQ x.length ++ x
def zcg (rs : List (List UInt8)) : List UInt8 := (rs.map zjI).flatten
def opSz (o : TOp) : Nat := o.topic.length + o.group.length + (o.recs.map fun r => r.length + 10).sum
theorem zfM {x : List UInt8} (h : x.length < 18446744073709551616) : (zjI x).length ≤ x.length + 10 := by
  have := zZ h
  simp only [zjI, List.length_append]; omega
theorem take_eq_of {α : Type} {a b : List α} (hl : a.length = b.length) {k : Nat} (hk : k = a.length) (h : a.take k = b.take k) : a = b := by
  rw [hk, List.take_length, hl, List.take_length] at h
  exact h
theorem take_succ_eq {α : Type} {a b : List α} {k : Nat} {x y : α} (ha : a[k]? = some x) (hb : b[k]? = some y) (h : a.take k = b.take k) (e : x = y) : a.take (k + 1) = b.take (k + 1) := by
  rw [List.take_add_one, List.take_add_one, ha, hb, h, e]

theorem list_as {α β : Type} {f : α → β} : ∀ {l : List β}, (∀ e ∈ l, ∃ a, e = f a) → ∃ as_ : List α, l = as_.map f
  | [], _ => ⟨[], rfl⟩
  | e :: l, h => by
    obtain ⟨a, rfl⟩ := h e List.mem_cons_self
    obtain ⟨as_, rfl⟩ := list_as (l := l) (fun x hx => h x (List.mem_cons_of_mem _ hx))
    exact ⟨a :: as_, rfl⟩
theorem fits1 {t : Ty} {d : D} (h : zfB [t] [d]) : ziO t d := h.2 0 t d rfl rfl
theorem one_of {t : Ty} {ds : List D} (h : zfB [t] ds) : ∃ d, ds = [d] ∧ ziO t d := by
  match ds, h with
  | [d], h => exact ⟨d, rfl, fits1 h⟩
theorem zeN {t : Ty} {ts : List Ty} {ds : List D} (h : zfB (t :: ts) ds) : ∃ d ds', ds = d :: ds' ∧ ziO t d ∧ zfB ts ds' := by
  match ds, h with
  | d :: ds', h => exact ⟨d, ds', rfl, h.2 0 t d rfl rfl, by have := h.1; simpa using this, fun i t d h1 h2 => h.2 (i + 1) t d h1 h2⟩
theorem tfits_nil {ds : List D} (h : zfB [] ds) : ds = [] := by
  have := h.1; simpa using this
theorem dec_int {k : IntKind} {d : D} (h : ziO (.int k) d) : ∃ n, d = .int k n ∧ (Lit.int k n).wf = true := by cases h with | int _ n h => exact ⟨n, rfl, h⟩
theorem zpo {d : D} (h : ziO (.int .i64) d) : ∃ n, d = .int .i64 n ∧ -9223372036854775808 ≤ n ∧ n ≤ 9223372036854775807 := by
  obtain ⟨n, hd, h2⟩ := dec_int h
  exact ⟨n, hd, by simpa [Lit.wf, IntKind.min, IntKind.max, IntKind.signed, IntKind.bits] using h2⟩
theorem dec_u8 {d : D} (h : ziO (.int .u8) d) : ∃ b : UInt8, d = .int .u8 b.toNat := by
  obtain ⟨n, hd, h2⟩ := dec_int h
  have h' : 0 ≤ n ∧ n ≤ 255 := by simpa [Lit.wf, IntKind.min, IntKind.max, IntKind.signed, IntKind.bits] using h2
  exact ⟨UInt8.ofNat n.toNat, by rw [hd, zjm (by omega)]; congr 1; omega⟩
theorem dec_str {d : D} (h : ziO .str d) : ∃ s, d = .str s := by cases h with | str s _ => exact ⟨s, rfl⟩
theorem dec_slice {α : Type} {ts : List Ty} {d : D} {f : α → List D} (h : ziO (.slice ts) d) (hf : ∀ e, zfB ts e → ∃ a, e = f a) : ∃ as_ : List α, d = .slice (as_.map f) := by
  cases h with
  | slice _ es h1 h2 h3 =>
    obtain ⟨as_, rfl⟩ := list_as (f := f) (fun e he => hf e ⟨h2 e he, h3 e he⟩)
    exact ⟨as_, rfl⟩
theorem dec_bytes {d : D} (h : ziO (.slice [.int .u8]) d) : ∃ bs, d = .slice (bcs bs) := dec_slice h fun e he => by
  obtain ⟨d, rfl, h⟩ := one_of he
  obtain ⟨b, rfl⟩ := dec_u8 h
  exact ⟨b, rfl⟩
theorem dec_recs {d : D} (h : ziO (.slice [.slice [.int .u8]]) d) : ∃ rs, d = .slice (zK rs) := dec_slice h fun e he => by
  obtain ⟨d, rfl, h⟩ := one_of he
  obtain ⟨b, rfl⟩ := dec_bytes h
  exact ⟨b, rfl⟩
theorem bulk_bcs (bs : List UInt8) : ziK (bcs bs) = bs.length := by
  induction bs with
  | nil => rfl
  | cons b bs ih => simp only [bcs, List.map_cons, zbx, ziK, zgz, zlL, List.length_cons] at ih ⊢; omega
theorem bulk_recs (rs : List (List UInt8)) : ziK (zK rs) = (rs.map fun r => r.length + 1).sum := by
  induction rs with
  | nil => rfl
  | cons r rs ih => simp only [zK, List.map_cons, ziK, zgz, zlL, List.sum_cons, bulk_bcs] at ih ⊢; omega
def i64r (n : Int) : Prop := -9223372036854775808 ≤ n ∧ n ≤ 9223372036854775807
def opR (o : TOp) : Prop := i64r o.kind ∧ i64r o.offset
def opD (o : TOp) : List D := [.int .i64 o.kind, .str o.topic, .str o.group, .int .i64 o.offset, .slice (zK o.recs)]
theorem opSz_bulk (o : TOp) : opSz o ≤ 10 * zgz (opD o) := by
  have : (o.recs.map fun r => r.length + 10).sum ≤ 10 * (o.recs.map fun r => r.length + 1).sum := by
    induction o.recs with
    | nil => simp
    | cons r rs ih => simp only [List.map_cons, List.sum_cons]; omega
  simp only [opSz, opD, zgz, zlL, bulk_recs]
  omega

structure zhm where
  key : Int
  dig : Int
deriving DecidableEq
structure zag where
  client : Int
  time : Int
  op : TOp
  key : Int
  dig : Int
deriving DecidableEq
structure TPrep where
  view : Int
  seq : Int
  dig : Int
  fkey : Int
  fdig : Int
  signs : List zhm
  batch : List zag
deriving DecidableEq
structure TCert where
  seq : Int
  dig : Int
  signs : List zhm
deriving DecidableEq
structure TChange where
  view : Int
  src : Int
  cert : TCert
  above : List TPrep
  key : Int
  dig : Int
deriving DecidableEq
structure TEntry where
  view : Int
  seq : Int
  batch : List zag
  key : Int
  dig : Int
deriving DecidableEq

def signD (s : zhm) : List D := [.int .i64 s.key, .int .i64 s.dig]
abbrev signsE (l : List zhm) : List (List D) := l.map signD
def signedD (x : zag) : List D := [.int .i64 x.client, .int .i64 x.time, .int .i64 x.op.kind, .str x.op.topic, .str x.op.group, .int .i64 x.op.offset, .slice (zK x.op.recs), .int .i64 x.key, .int .i64 x.dig]
abbrev batchE (b : List zag) : List (List D) := b.map signedD
theorem zoX {α : Type} {f : α → List D} {n : Nat} (hf : ∀ a, (f a).length = n) (l : List α) : ∀ e ∈ l.map f, e.length = n := by
  intro e he
  obtain ⟨a, _, rfl⟩ := List.mem_map.1 he
  exact hf a
theorem zbo {α : Type} {f : α → List D} {l : List α} {k : Nat} {x : α} (h : l[k]? = some x) : (l.map f)[k]? = some (f x) := by simp [h]
def signedR (x : zag) : Prop := i64r x.client ∧ i64r x.time ∧ opR x.op ∧ i64r x.key ∧ i64r x.dig

def lookAt : List (List UInt8) → List UInt8 → Nat → Option Nat
  | [], _, _ => none
  | x :: r, b, i => if b = x then some i else lookAt r b (i + 1)
def lookF (l : List (List UInt8)) (b : List UInt8) : Option Nat := lookAt l b 0
def sumL (l : List (List UInt8)) (b : List UInt8) : List (List UInt8) := match lookF l b with
  | some _ => l
  | none => if l.length ≥ 1048576 then l else l ++ [b]
abbrev tabE (l : List (List UInt8)) : List (List D) := l.map fun b => [D.slice (bcs b)]
def tabMA : List (List UInt8) → Nat → List (AV × AV)
  | [], _ => []
  | x :: r, i => (.d (.str x), .d (.int .i64 ((i + 1 : Nat) : Int))) :: tabMA r (i + 1)
def tabM (l : List (List UInt8)) : List (AV × AV) := tabMA l 0

theorem zpd {l : List (List UInt8)} {b : List UInt8} (h : lookF l b = none) : b ∉ l := by
  have key : ∀ (l : List (List UInt8)) (i : Nat), lookAt l b i = none → b ∉ l := by
    intro l
    induction l with
    | nil => intro i _; simp
    | cons x r ih =>
      intro i h
      simp only [lookAt] at h
      split at h
      · cases h
      · rename_i hne
        simp only [List.mem_cons, not_or]
        exact ⟨hne, ih _ h⟩
  exact key l 0 h
abbrev ledE (l : List zhm) : List (List D) := signsE l
def ledM (l : List zhm) : List (AV × AV) := l.map fun s => (.agg [.d (.int .i64 s.key), .d (.int .i64 s.dig)], .d (.bool true))

def at8 (s : List UInt8) (i : Nat) : Nat := (s[i]?.getD 0).toNat
def zid (c : Nat) : Nat := if c < 128 then 1 else if 194 ≤ c ∧ c < 224 then 2 else if 224 ≤ c ∧ c < 240 then 3 else if 240 ≤ c ∧ c < 245 then 4 else 0
def zeO (s : List UInt8) (z : Nat) : Nat → Nat
  | 0 => at8 s 0 % 2 ^ (7 - z)
  | i + 1 => zeO s z i * 64 + at8 s (i + 1) % 64
def zlI (s : List UInt8) (i : Nat) : Bool := decide (128 ≤ at8 s i ∧ at8 s i < 192)
def zdW (z : Nat) : Nat := if z = 2 then 128 else if z = 3 then 2048 else if z = 4 then 65536 else 0
def zgU (s : List UInt8) : Nat × Nat :=
  let z := zid (at8 s 0)
  if z = 0 ∨ z > s.length then (0, 0)
  else if z = 1 then (at8 s 0, 1)
  else if (∀ i, i < z → 1 ≤ i → zlI s i = true) then
    if zeO s z (z - 1) < zdW z ∨ zeO s z (z - 1) > 1114111 ∨ (55296 ≤ zeO s z (z - 1) ∧ zeO s z (z - 1) < 57344) then (0, 0) else (zeO s z (z - 1), z)
  else (0, 0)

theorem znC (s : List UInt8) (i : Nat) : at8 s i < 256 := (s[i]?.getD 0).toNat_lt
theorem zhP (s : List UInt8) (p i : Nat) : at8 (s.drop p) i = at8 s (p + i) := by simp [at8, List.getElem?_drop]
theorem get_at8 (s : List UInt8) (i : Nat) : ((ByteArray.mk s.toArray).get! i).toNat = at8 s i := by
  simp only [ByteArray.get!, at8]
  rw [getElem!_def]
  simp only [List.getElem?_toArray]
  cases s[i]? <;> rfl

theorem all2 (p : Nat → Bool) : (∀ i, i < 2 → 1 ≤ i → p i = true) ↔ p 1 = true := ⟨fun h => h 1 (by omega) (by omega), fun h i h1 h2 => by
  obtain rfl : i = 1 := by omega
  exact h⟩
theorem all3 (p : Nat → Bool) : (∀ i, i < 3 → 1 ≤ i → p i = true) ↔ p 1 = true ∧ p 2 = true := ⟨fun h => ⟨h 1 (by omega) (by omega), h 2 (by omega) (by omega)⟩, fun h i h1 h2 => by
  have : i = 1 ∨ i = 2 := by omega
  rcases this with rfl | rfl
  · exact h.1
  · exact h.2⟩
theorem all4 (p : Nat → Bool) : (∀ i, i < 4 → 1 ≤ i → p i = true) ↔ p 1 = true ∧ p 2 = true ∧ p 3 = true := ⟨fun h => ⟨h 1 (by omega) (by omega), h 2 (by omega) (by omega), h 3 (by omega) (by omega)⟩, fun h i h1 h2 => by
  have : i = 1 ∨ i = 2 ∨ i = 3 := by omega
  rcases this with rfl | rfl | rfl
  · exact h.1
  · exact h.2.1
  · exact h.2.2⟩

def zkI (s : List UInt8) : Nat × Nat := if (zgU s).2 = 0 then (65533, 1) else zgU s

theorem decode_eq (s : List UInt8) (p : Nat) (hp : p < s.length) : Utf8.decode ⟨s.toArray⟩ p = zkI (s.drop p) := by
  have hsz : (ByteArray.mk s.toArray).size = s.length := by simp [ByteArray.size]
  have hl : (s.drop p).length = s.length - p := by simp
  unfold Utf8.decode
  simp only [get_at8, hsz, Nat.add_zero]
  have h0 := znC s p
  have h1 := znC s (p + 1)
  have h2 := znC s (p + 2)
  have h3 := znC s (p + 3)
  simp only [zkI, zgU, zid, hl, zhP, Nat.add_zero]
  generalize e0 : at8 s p = b0 at *
  generalize e1 : at8 s (p + 1) = b1 at *
  generalize e2 : at8 s (p + 2) = b2 at *
  generalize e3 : at8 s (p + 3) = b3 at *
  have hc1 : zlI (s.drop p) 1 = decide (128 ≤ b1 ∧ b1 < 192) := by simp only [zlI, zhP, e1]
  have hc2 : zlI (s.drop p) 2 = decide (128 ≤ b2 ∧ b2 < 192) := by simp only [zlI, zhP, e2]
  have hc3 : zlI (s.drop p) 3 = decide (128 ≤ b3 ∧ b3 < 192) := by simp only [zlI, zhP, e3]
  have p2 : zeO (s.drop p) 2 1 = b0 % 32 * 64 + b1 % 64 := by simp only [zeO, zhP, Nat.add_zero, e0, e1]
  have p3 : zeO (s.drop p) 3 2 = b0 % 16 * 4096 + b1 % 64 * 64 + b2 % 64 := by simp only [zeO, zhP, Nat.add_zero, e0, e1, e2]; omega
  have p4 : zeO (s.drop p) 4 3 = b0 % 8 * 262144 + b1 % 64 * 4096 + b2 % 64 * 64 + b3 % 64 := by simp only [zeO, zhP, Nat.add_zero, e0, e1, e2, e3]; omega
  have c1 : (b1 / 64 == 2) = decide (128 ≤ b1 ∧ b1 < 192) := by rw [Bool.eq_iff_iff]; simp; omega
  have c2 : (b2 / 64 == 2) = decide (128 ≤ b2 ∧ b2 < 192) := by rw [Bool.eq_iff_iff]; simp; omega
  have c3 : (b3 / 64 == 2) = decide (128 ≤ b3 ∧ b3 < 192) := by rw [Bool.eq_iff_iff]; simp; omega
  simp only [c1, c2, c3]
  by_cases a1 : b0 < 128
  · have : ¬ (1 > s.length - p) := by omega
    simp [a1, this]
  by_cases a2 : 194 ≤ b0 ∧ b0 < 224
  · have q1 : (b0 / 32 == 6) = true := by simp; omega
    have q2 : (b0 / 16 == 14) = false := by simp; omega
    have q3 : (b0 / 8 == 30) = false := by simp; omega
    simp only [a1, a2, q1, q2, q3, if_false, if_true, all2, hc1, p2, zdW]
    by_cases l1 : p + 1 < s.length
    · have : ¬ (2 > s.length - p) := by omega
      by_cases k1 : 128 ≤ b1 ∧ b1 < 192
      · have g1 : 128 ≤ b0 % 32 * 64 + b1 % 64 := by omega
        have g2 : ¬ (b0 % 32 * 64 + b1 % 64 < 128 ∨ b0 % 32 * 64 + b1 % 64 > 1114111 ∨ 55296 ≤ b0 % 32 * 64 + b1 % 64 ∧ b0 % 32 * 64 + b1 % 64 < 57344) := by omega
        simp [l1, this, k1, g1, g2, all2, hc1, p2, zdW, Utf8.runeError]
      · simp [l1, this, k1, all2, hc1, p2, zdW, Utf8.runeError]
    · have : 2 > s.length - p := by omega
      simp [l1, this, all2, hc1, p2, zdW, Utf8.runeError]
  by_cases a3 : 224 ≤ b0 ∧ b0 < 240
  · have q1 : (b0 / 32 == 6) = false := by simp; omega
    have q2 : (b0 / 16 == 14) = true := by simp; omega
    have q3 : (b0 / 8 == 30) = false := by simp; omega
    simp only [a1, a2, a3, q1, q2, q3, if_false, if_true, all3, hc1, hc2, p3, zdW]
    by_cases l1 : p + 2 < s.length
    · have : ¬ (3 > s.length - p) := by omega
      have l2 : p + 1 < s.length := by omega
      by_cases k1 : 128 ≤ b1 ∧ b1 < 192
      · by_cases k2 : 128 ≤ b2 ∧ b2 < 192
        · obtain ⟨v, hv⟩ : ∃ v, v = b0 % 16 * 4096 + b1 % 64 * 64 + b2 % 64 := ⟨_, rfl⟩
          simp only [← hv]
          rw [← hv] at p3
          have hv' : v < 65536 := by omega
          by_cases g : v < 2048 ∨ 55296 ≤ v ∧ v < 57344
          · have g1 : (decide (v ≥ 2048) && Utf8.valid (v : Int)) = false := by simp [Utf8.valid]; omega
            have g2 : v < 2048 ∨ v > 1114111 ∨ 55296 ≤ v ∧ v < 57344 := by omega
            simp [l1, l2, this, k1, k2, g2, g1, all3, hc1, hc2, p3, zdW, Utf8.runeError]
          · have g1 : (decide (v ≥ 2048) && Utf8.valid (v : Int)) = true := by simp [Utf8.valid]; omega
            have g2 : ¬ (v < 2048 ∨ v > 1114111 ∨ 55296 ≤ v ∧ v < 57344) := by omega
            rw [g1]
            simp [l1, l2, this, k1, k2, g2, all3, hc1, hc2, p3, zdW, Utf8.runeError]
        · simp [l1, l2, this, k1, k2, all3, hc1, hc2, p3, zdW, Utf8.runeError]
      · simp [l1, l2, this, k1, all3, hc1, hc2, p3, zdW, Utf8.runeError]
    · have : 3 > s.length - p := by omega
      simp [l1, this, all3, hc1, hc2, p3, zdW, Utf8.runeError]
  by_cases a4 : 240 ≤ b0 ∧ b0 < 245
  · have q1 : (b0 / 32 == 6) = false := by simp; omega
    have q2 : (b0 / 16 == 14) = false := by simp; omega
    have q3 : (b0 / 8 == 30) = true := by simp; omega
    simp only [a1, a2, a3, a4, q1, q2, q3, if_false, if_true, all4, hc1, hc2, hc3, p4, zdW]
    by_cases l1 : p + 3 < s.length
    · have : ¬ (4 > s.length - p) := by omega
      have l2 : p + 1 < s.length := by omega
      have l3 : p + 2 < s.length := by omega
      by_cases k1 : 128 ≤ b1 ∧ b1 < 192
      · by_cases k2 : 128 ≤ b2 ∧ b2 < 192
        · by_cases k3 : 128 ≤ b3 ∧ b3 < 192
          · obtain ⟨v, hv⟩ : ∃ v, v = b0 % 8 * 262144 + b1 % 64 * 4096 + b2 % 64 * 64 + b3 % 64 := ⟨_, rfl⟩
            simp only [← hv]
            rw [← hv] at p4
            by_cases g : v < 65536 ∨ v > 1114111
            · have g1 : (decide (v ≥ 65536) && Utf8.valid (v : Int)) = false := by simp [Utf8.valid]; omega
              have g2 : v < 65536 ∨ v > 1114111 ∨ 55296 ≤ v ∧ v < 57344 := by omega
              rw [g1]
              simp [l1, l2, l3, this, k1, k2, k3, g2, all4, hc1, hc2, hc3, p4, zdW, Utf8.runeError]
            · have g1 : (decide (v ≥ 65536) && Utf8.valid (v : Int)) = true := by simp [Utf8.valid]; omega
              have g2 : ¬ (v < 65536 ∨ v > 1114111 ∨ 55296 ≤ v ∧ v < 57344) := by omega
              rw [g1]
              simp [l1, l2, l3, this, k1, k2, k3, g2, all4, hc1, hc2, hc3, p4, zdW, Utf8.runeError]
          · simp [l1, l2, l3, this, k1, k2, k3, all4, hc1, hc2, hc3, p4, zdW, Utf8.runeError]
        · simp [l1, l2, l3, this, k1, k2, all4, hc1, hc2, hc3, p4, zdW, Utf8.runeError]
      · simp [l1, l2, l3, this, k1, all4, hc1, hc2, hc3, p4, zdW, Utf8.runeError]
    · have : 4 > s.length - p := by omega
      simp [l1, this, all4, hc1, hc2, hc3, p4, zdW, Utf8.runeError]
  · have q2 : (b0 / 16 == 14) = false := by simp; omega
    simp only [a1, a2, a3, a4, q2, if_false, if_true]
    by_cases q : b0 / 32 = 6
    · have h192 : b0 = 192 ∨ b0 = 193 := by omega
      have q3 : (b0 / 8 == 30) = false := by simp; omega
      have g : ¬ (b0 % 32 * 64 + b1 % 64 ≥ 128) := by omega
      simp [q, q3, g, Utf8.runeError]
    · by_cases q' : b0 / 8 = 30
      · have g : ¬ ((b0 % 8 * 262144 + b1 % 64 * 4096 + b2 % 64 * 64 + b3 % 64) ≤ 1114111) := by omega
        obtain ⟨v, hv⟩ : ∃ v, v = b0 % 8 * 262144 + b1 % 64 * 4096 + b2 % 64 * 64 + b3 % 64 := ⟨_, rfl⟩
        rw [← hv] at g
        simp only [← hv]
        have g1 : Utf8.valid (v : Int) = false := by simp [Utf8.valid]; omega
        simp [q, q', g1, Utf8.runeError]
      · simp [q, q', Utf8.runeError]

theorem zhh (s : List UInt8) : (zgU s).2 ≤ s.length ∧ (zgU s).2 ≤ 4 ∧ (zgU s).1 ≤ 1114111 := by
  have h0 := znC s 0
  have hz : zid (at8 s 0) ≤ 4 := by unfold zid; split <;> (try split) <;> (try split) <;> (try split) <;> omega
  simp only [zgU]
  split
  · simp
  · rename_i h
    split
    · rename_i h1; simp only []; omega
    · split
      · split
        · simp
        · simp only []; omega
      · simp
theorem goDec_width (s : List UInt8) (h : s ≠ []) : 1 ≤ (zkI s).2 ∧ (zkI s).2 ≤ s.length ∧ (zkI s).1 ≤ 1114111 := by
  have h1 := zhh s
  have h2 : 0 < s.length := List.length_pos_iff.2 h
  unfold zkI
  split
  · simp; omega
  · omega

def badF (v : Nat) : Bool := decide (v < 33 ∨ (127 ≤ v ∧ v ≤ 159) ∨ v = 47 ∨ v = 65533)
def zcF : Nat → List UInt8 → Option Nat
  | 0, _ => none
  | f + 1, s => if s = [] then some 0 else if (zgU s).2 = 0 ∨ badF (zgU s).1 = true then none else (zcF f (s.drop (zgU s).2)).map (· + 1)
def zfb (s : List UInt8) : Nat := match zcF (s.length + 1) s with
  | some n => if n > 16 then 0 else n
  | none => 0
def zaZ (s : List UInt8) : Bool := decide (0 < zfb s)

theorem goDec_bad (s : List UInt8) : badF (zkI s).1 = (decide ((zgU s).2 = 0) || badF (zgU s).1) := by
  unfold zkI
  split
  · rename_i h; simp [h, badF]
  · rename_i h; simp [h]
theorem goDec_good {s : List UInt8} (h : badF (zkI s).1 = false) : zkI s = zgU s ∧ (zgU s).2 ≠ 0 ∧ badF (zgU s).1 = false := by
  rw [goDec_bad] at h
  simp at h
  exact ⟨by simp [zkI, h.1], h.1, h.2⟩
theorem zkd : ∀ (f g : Nat) (s : List UInt8), s.length < f → s.length < g → zcF f s = zcF g s
  | 0, _, _, h, _ => by omega
  | _, 0, _, _, h => by omega
  | f + 1, g + 1, s, h1, h2 => by
    simp only [zcF]
    split
    · rfl
    · rename_i hs
      split
      · rfl
      · rename_i hd
        have hw := zhh s
        have : 0 < s.length := List.length_pos_iff.2 hs
        rw [zkd f g _ (by simp; omega) (by simp; omega)]

def zgm (x : zag) : Int := if x.client < 0 ∨ x.client ≥ 8 ∨ x.time < 1 ∨ x.time > 9007199254740992 then 80 else zaD zaZ x.op
def zlJ (k d : Int) : Int := if k < 0 ∨ k ≥ 21 ∨ d < 1 ∨ d > 9007199254740992 then 81 else 0
def errF (s : zag) : Int := if zgm s ≠ 0 then zgm s else zlJ s.key s.dig
def errsF : List zag → Int
  | [] => 0
  | s :: r => if errF s ≠ 0 then errF s else errsF r
def ndup (a b : zag) : Prop := ¬ (a.client = b.client ∧ a.time = b.time)
instance : DecidableRel ndup := fun a b => inferInstanceAs (Decidable (¬ _))
def zdT (l : List zag) : Int :=
  if l.length > 4 then 3 else if errsF l ≠ 0 then errsF l else if l.Pairwise ndup then 0 else 5

def okO (o : TOp) : Prop := o.topic.length ≤ 1073741824 ∧ o.group.length ≤ 1073741824 ∧ o.recs.length ≤ 1073741824 ∧ ∀ r ∈ o.recs, r.length ≤ 1073741824

def zhS (most : Nat) : Nat → Nat → List UInt8 → Except Int (Nat × List UInt8)
  | _, _, [] => .error 10
  | i, acc, c :: r =>
    if i = 9 ∧ c.toNat > 1 then .error 11
    else if c.toNat < 128 then (if (i > 0 ∧ c.toNat = 0) ∨ acc + c.toNat * 128 ^ i > most then .error 11 else .ok (acc + c.toNat * 128 ^ i, r))
    else zhS most (i + 1) (acc + c.toNat % 128 * 128 ^ i) r

theorem numR_put (most : Nat) : ∀ (m i acc : Nat) (rest : List UInt8), i ≤ 9 → m < 128 ^ (9 - i) * 2 → (i > 0 → m ≠ 0) → acc + m * 128 ^ i ≤ most → zhS most i acc (zbQ m ++ rest) = .ok (acc + m * 128 ^ i, rest) := by
  intro m
  induction m using Nat.strongRecOn with
  | ind m ih =>
    intro i acc rest hi hm h0 hle
    by_cases hs : m < 128
    · have e : (UInt8.ofNat m).toNat = m := by simp; omega
      rw [zfX hs]
      simp only [List.cons_append, List.nil_append, zhS, e]
      rw [if_neg (by rintro ⟨rfl, h⟩; simp at hm; omega), if_pos hs, if_neg (by rintro (⟨h1, h2⟩ | h); exact h0 h1 h2; omega)]
    · have e : (UInt8.ofNat (m % 128 + 128)).toNat = m % 128 + 128 := by simp; omega
      have hi9 : i < 9 := by
        rcases Nat.lt_or_ge i 9 with h | h
        · exact h
        · have : i = 9 := by omega
          subst this
          simp at hm; omega
      rw [zkB hs]
      simp only [List.cons_append, zhS, e]
      rw [if_neg (by omega), if_neg (by omega)]
      have hp : 128 ^ (9 - i) = 128 ^ (9 - (i + 1)) * 128 := by rw [show 9 - i = (9 - (i + 1)) + 1 by omega, Nat.pow_succ]
      have hpi : 128 ^ (i + 1) = 128 ^ i * 128 := Nat.pow_succ ..
      have hmod : (m % 128 + 128) % 128 = m % 128 := by omega
      have hsum : acc + m % 128 * 128 ^ i + m / 128 * 128 ^ (i + 1) = acc + m * 128 ^ i := by
        rw [hpi]
        have : m * 128 ^ i = (m % 128 + m / 128 * 128) * 128 ^ i := by rw [show m % 128 + m / 128 * 128 = m by omega]
        rw [this, Nat.add_mul, Nat.mul_comm (128 ^ i) 128, ← Nat.mul_assoc, Nat.add_assoc]
      rw [hmod, ih (m / 128) (by omega) (i + 1) _ rest (by omega) (by rw [hp] at hm; rw [Nat.div_lt_iff_lt_mul (by omega)]; rw [Nat.mul_right_comm] at hm; exact hm) (by omega) (by rw [hsum]; exact hle), hsum]
theorem zoY (most : Nat) : ∀ (bs : List UInt8) (i acc n : Nat) (rest : List UInt8), i ≤ 9 → zhS most i acc bs = .ok (n, rest) → ∃ m, n = acc + m * 128 ^ i ∧ bs = zbQ m ++ rest ∧ n ≤ most ∧ (i > 0 → m ≠ 0) ∧ m < 128 ^ (9 - i) * 2
  | [], i, acc, n, rest, _, h => by simp [zhS] at h
  | c :: r, i, acc, n, rest, hi, h => by
    have hc := c.toNat_lt
    simp only [zhS] at h
    split at h
    · cases h
    · rename_i h1
      split at h
      · rename_i h2
        split at h
        · cases h
        · rename_i h3
          cases h
          have hp : 1 ≤ 128 ^ (9 - i) := Nat.one_le_pow _ _ (by omega)
          refine ⟨c.toNat, rfl, ?_, by omega, fun hi0 hc0 => h3 (.inl ⟨hi0, hc0⟩), ?_⟩
          · rw [zfX h2]; simp
          · rcases Nat.lt_or_ge i 9 with h9 | h9
            · have : 128 ^ 1 ≤ 128 ^ (9 - i) := Nat.pow_le_pow_right (by omega) (by omega)
              omega
            · have : i = 9 := by omega
              subst this
              simp; omega
      · rename_i h2
        have hi9 : i < 9 := by
          rcases Nat.lt_or_ge i 9 with h9 | h9
          · exact h9
          · exact absurd ⟨by omega, by omega⟩ h1
        obtain ⟨m, e1, e2, e3, e4, e5⟩ := zoY most r (i + 1) _ n rest (by omega) h
        have hm0 : m ≠ 0 := e4 (by omega)
        have hpi : 128 ^ (i + 1) = 128 ^ i * 128 := Nat.pow_succ ..
        have hp : 128 ^ (9 - i) = 128 ^ (9 - (i + 1)) * 128 := by rw [show 9 - i = (9 - (i + 1)) + 1 by omega, Nat.pow_succ]
        refine ⟨c.toNat % 128 + m * 128, ?_, ?_, e3, fun _ => by omega, ?_⟩
        · rw [e1, hpi, Nat.add_mul, Nat.mul_comm (128 ^ i) 128, ← Nat.mul_assoc, Nat.add_assoc]
        · have hb : ¬ (c.toNat % 128 + m * 128 < 128) := by omega
          rw [zkB hb, show (c.toNat % 128 + m * 128) % 128 + 128 = c.toNat by omega, show (c.toNat % 128 + m * 128) / 128 = m by omega]
          simp [e2]
        · rw [hp, Nat.mul_right_comm]
          generalize 128 ^ (9 - (i + 1)) = q at e5 ⊢
          omega




structure THdr where
  seq : Int
  prev : Int
  batch : Int
  root : Int
  state : Int
deriving DecidableEq
structure zgR where
  topic : List UInt8
  offset : Int
  rec_ : List UInt8
abbrev zoT (p : zgR) : List D := [.str p.topic, .int .i64 p.offset, .slice (bcs p.rec_)]
abbrev zch (l : List zgR) : List (List D) := l.map zoT

structure Rd where
  b : List UInt8
  e : Int
def Rd.fail (cut : Bool) (s : Rd) (x : Int) : Rd := if s.e = 0 ∧ x ≠ 0 then ⟨if cut then [] else s.b, x⟩ else s
def zax (cut : Bool) (most : Nat) (s : Rd) : Nat × Rd :=
  if s.e = 0 then (match zhS most 0 0 s.b with | .ok (n, r) => (n, ⟨r, 0⟩) | .error x => (0, s.fail cut x)) else (0, s)
def zcI (cut : Bool) (n : Nat) (s : Rd) : List UInt8 × Rd :=
  if s.e = 0 then (if n > s.b.length then ([], s.fail cut 10) else (s.b.take n, ⟨s.b.drop n, 0⟩)) else ([], s)
def zaJ (cut : Bool) (most : Nat) (s : Rd) : List UInt8 × Rd := zcI cut (zax cut most s).1 (zax cut most s).2
def zdN (cut : Bool) : Nat → Rd → List (List UInt8) × Rd
  | 0, s => ([], s)
  | k + 1, s => ((zdN cut k s).1 ++ [(zaJ cut 64 (zdN cut k s).2).1], (zaJ cut 64 (zdN cut k s).2).2)
def zjX (cut : Bool) (k : Nat) (s : Rd) : TOp × Rd :=
  let t := zaJ cut 64 s
  if k = 0 then (noOp, s)
  else if k = 2 then (let n := zax cut 4 t.2; let r := zdN cut n.1 n.2; (⟨k, t.1, [], 0, r.1⟩, r.2))
  else if k = 3 then (let g := zaJ cut 64 t.2; let f := zax cut 9007199254740992 g.2; (⟨k, t.1, g.1, f.1, []⟩, f.2))
  else if k = 4 then (let f := zax cut 9007199254740992 t.2; (⟨k, t.1, [], f.1, []⟩, f.2))
  else (⟨k, t.1, [], 0, []⟩, t.2)
def zll (cut : Bool) (name : List UInt8 → Bool) (s : Rd) : TOp × Rd :=
  let k := zax cut 4 s
  let x := zjX cut k.1 k.2
  let z := x.2.fail cut (zaD name x.1)
  (if z.e = 0 then x.1 else noOp, z)

def Rd.like (s t : Rd) : Prop := s.e = t.e ∧ (s.e = 0 → s.b = t.b)
theorem Rd.like.fail {s t : Rd} {c d : Bool} {x : Int} (h : s.like t) : (s.fail c x).like (t.fail d x) := by
  obtain ⟨h1, h2⟩ := h
  unfold Rd.fail Rd.like
  grind
theorem Rd.like.num {s t : Rd} {c d : Bool} {m : Nat} (h : s.like t) : (zax c m s).1 = (zax d m t).1 ∧ (zax c m s).2.like (zax d m t).2 := by
  have hf : ∀ x, (s.fail c x).like (t.fail d x) := fun x => h.fail
  obtain ⟨h1, h2⟩ := h
  unfold zax
  by_cases h0 : s.e = 0
  · rw [if_pos h0, if_pos (show t.e = 0 from h1 ▸ h0), h2 h0]
    cases zhS m 0 0 t.b with
    | ok x => exact ⟨rfl, rfl, fun _ => rfl⟩
    | error x => exact ⟨rfl, hf x⟩
  · rw [if_neg h0, if_neg (h1 ▸ h0)]
    exact ⟨rfl, h1, h2⟩
theorem Rd.like.take {s t : Rd} {c d : Bool} {m : Nat} (h : s.like t) : (zcI c m s).1 = (zcI d m t).1 ∧ (zcI c m s).2.like (zcI d m t).2 := by
  have hf : ∀ x, (s.fail c x).like (t.fail d x) := fun x => h.fail
  obtain ⟨h1, h2⟩ := h
  unfold zcI
  by_cases h0 : s.e = 0
  · rw [if_pos h0, if_pos (show t.e = 0 from h1 ▸ h0), h2 h0]
    split
    · exact ⟨rfl, hf 10⟩
    · exact ⟨rfl, rfl, fun _ => rfl⟩
  · rw [if_neg h0, if_neg (h1 ▸ h0)]
    exact ⟨rfl, h1, h2⟩
theorem Rd.like.bytes {s t : Rd} {c d : Bool} {m : Nat} (h : s.like t) : (zaJ c m s).1 = (zaJ d m t).1 ∧ (zaJ c m s).2.like (zaJ d m t).2 := by
  have a := h.num (c := c) (d := d) (m := m)
  have := a.2.take (c := c) (d := d) (m := (zax c m s).1)
  unfold zaJ
  rw [← a.1]
  exact this
theorem Rd.like.recs {s t : Rd} {c d : Bool} (h : s.like t) : ∀ k, (zdN c k s).1 = (zdN d k t).1 ∧ (zdN c k s).2.like (zdN d k t).2
  | 0 => ⟨rfl, h⟩
  | k + 1 => by
    obtain ⟨a, b⟩ := Rd.like.recs h (c := c) (d := d) k
    have e := b.bytes (c := c) (d := d) (m := 64)
    exact ⟨by simp only [zdN, a, e.1], e.2⟩
theorem Rd.like.fields {s t : Rd} {c d : Bool} (h : s.like t) (k : Nat) : (zjX c k s).1 = (zjX d k t).1 ∧ (zjX c k s).2.like (zjX d k t).2 := by
  obtain ⟨t1, t2⟩ := h.bytes (c := c) (d := d) (m := 64)
  obtain ⟨n1, n2⟩ := t2.num (c := c) (d := d) (m := 4)
  obtain ⟨r1, r2⟩ := n2.recs (c := c) (d := d) (zax c 4 (zaJ c 64 s).2).1
  obtain ⟨g1, g2⟩ := t2.bytes (c := c) (d := d) (m := 64)
  obtain ⟨f1, f2⟩ := g2.num (c := c) (d := d) (m := 9007199254740992)
  obtain ⟨e1, e2⟩ := t2.num (c := c) (d := d) (m := 9007199254740992)
  unfold zjX
  simp only
  split
  · exact ⟨rfl, h⟩
  · split
    · rw [← n1, ← r1, ← t1]; exact ⟨rfl, r2⟩
    · split
      · rw [← t1, ← g1, ← f1]; exact ⟨rfl, f2⟩
      · split
        · rw [← t1, ← e1]; exact ⟨rfl, e2⟩
        · rw [← t1]; exact ⟨rfl, t2⟩
theorem Rd.like.takeOp {s t : Rd} {c d : Bool} {name : List UInt8 → Bool} (h : s.like t) : (zll c name s).1 = (zll d name t).1 ∧ (zll c name s).2.like (zll d name t).2 := by
  obtain ⟨k1, k2⟩ := h.num (c := c) (d := d) (m := 4)
  obtain ⟨x1, x2⟩ := k2.fields (c := c) (d := d) (zax c 4 s).1
  have z := x2.fail (c := c) (d := d) (x := zaD name (zjX c (zax c 4 s).1 (zax c 4 s).2).1)
  unfold zll
  simp only
  rw [← k1, ← x1, ← z.1]
  exact ⟨rfl, z⟩

theorem zaX (cut : Bool) (m : Nat) (s : Rd) : (zax cut m s).1 ≤ m := by
  unfold zax
  split
  · cases h : zhS m 0 0 s.b with
    | ok x =>
      obtain ⟨n, r⟩ := x
      obtain ⟨q, h1, h2, h3, _⟩ := zoY m s.b 0 0 n r (by omega) h
      exact h3
    | error x => exact Nat.zero_le _
  · exact Nat.zero_le _
theorem numR_len {m : Nat} {b : List UInt8} {n : Nat} {r : List UInt8} (h : zhS m 0 0 b = .ok (n, r)) : r.length ≤ b.length := by
  obtain ⟨q, h1, h2, _⟩ := zoY m b 0 0 n r (by omega) h
  rw [h2, List.length_append]; omega
theorem zpa (m : Nat) (s : Rd) : (zax false m s).2.b.length ≤ s.b.length := by
  unfold zax Rd.fail
  split
  · cases h : zhS m 0 0 s.b with
    | ok x => exact numR_len h
    | error x => simp only; split <;> simp
  · exact Nat.le_refl _
theorem takeP_len (n : Nat) (s : Rd) : (zcI false n s).2.b.length ≤ s.b.length := by
  unfold zcI Rd.fail
  split
  · split
    · simp only; split <;> simp
    · simp
  · exact Nat.le_refl _
theorem takeP_len1 (cut : Bool) (n : Nat) (s : Rd) : (zcI cut n s).1.length ≤ n := by
  unfold zcI
  split
  · split
    · simp
    · simp; omega
  · simp
theorem bytesP_len (m : Nat) (s : Rd) : (zaJ false m s).2.b.length ≤ s.b.length := Nat.le_trans (takeP_len _ _) (zpa m s)
theorem zeY (cut : Bool) (m : Nat) (s : Rd) : (zaJ cut m s).1.length ≤ m := Nat.le_trans (takeP_len1 _ _ _) (zaX _ _ _)

theorem zmU (c : Bool) (s : Rd) : ∀ k, (zdN c k s).1.length = k
  | 0 => rfl
  | k + 1 => by simp [zdN, zmU c s k]

theorem zpj {σ τ : List zc} {id : Nat} {x : zc} {K : KT} {l : List AV} (h1 : Low σ.length (dmT (zcJ l))) (hl : zgS σ.length σ) (hx : LowO σ.length x) (h : K (dmT (zcJ l)) (σ.set id x)) : Ends σ.length K (some l) (σ.set id x ++ τ) := by
  unfold Ends
  have e : (σ.set id x ++ τ).take σ.length = σ.set id x := by
    have := ziZ (σ.set id x) τ
    rwa [List.length_set] at this
  rw [e]
  exact ⟨h1, hl.set hx, h⟩
theorem zbr {σ : List zc} {id : Nat} {x : zc} {K : KT} {l : List AV} (h1 : Low σ.length (dmT (zcJ l))) (hl : zgS σ.length σ) (hx : LowO σ.length x) (h : K (dmT (zcJ l)) (σ.set id x)) : Ends σ.length K (some l) (σ.set id x) := by
  have := zpj (τ := []) h1 hl hx h
  rwa [List.append_nil] at this
theorem zdo {α : Type} {σ : List α} {id : Nat} {x y : α} (h : σ[id]? = some x) : (σ.set id y)[id]? = some y := by
  rw [List.getElem?_set_self (List.getElem?_eq_some_iff.1 h).1]
theorem zmA {α : Type} {σ : List α} {id : Nat} {x : α} (h : σ[id]? = some x) : σ.set id x = σ := by
  obtain ⟨h1, rfl⟩ := List.getElem?_eq_some_iff.1 h
  exact List.set_getElem_self h1

theorem numR_err {m : Nat} : ∀ {b : List UInt8} {i acc : Nat} {x : Int}, zhS m i acc b = .error x → x ≠ 0
  | [], i, acc, x, h => by simp only [zhS, Except.error.injEq] at h; omega
  | c :: r, i, acc, x, h => by
    simp only [zhS] at h
    split at h
    · simp only [Except.error.injEq] at h; omega
    · split at h
      · split at h
        · simp only [Except.error.injEq] at h; omega
        · cases h
      · exact numR_err h
theorem fail_ne {c : Bool} {s : Rd} {x : Int} (h : s.e = 0) (hx : x ≠ 0) : (s.fail c x).e ≠ 0 := by
  rw [Rd.fail, if_pos ⟨h, hx⟩]; exact hx
theorem zci {c : Bool} {m : Nat} {s : Rd} (h : (zax c m s).2.e = 0) : s.e = 0 ∧ s.b = zbQ (zax c m s).1 ++ (zax c m s).2.b := by
  unfold zax at h ⊢
  by_cases h0 : s.e = 0
  · rw [if_pos h0] at h ⊢
    refine ⟨h0, ?_⟩
    cases e : zhS m 0 0 s.b with
    | ok x =>
      obtain ⟨n, r⟩ := x
      obtain ⟨q, h1, h2, _⟩ := zoY m s.b 0 0 n r (by omega) e
      simp only [Nat.pow_zero, Nat.mul_one, Nat.zero_add] at h1
      simp only
      rw [h1]; exact h2
    | error x =>
      rw [e] at h
      exact absurd h (fail_ne h0 (numR_err e))
  · rw [if_neg h0] at h; exact absurd h h0
theorem takeP_ok {c : Bool} {n : Nat} {s : Rd} (h : (zcI c n s).2.e = 0) : s.e = 0 ∧ s.b = (zcI c n s).1 ++ (zcI c n s).2.b ∧ (zcI c n s).1.length = n := by
  unfold zcI at h ⊢
  by_cases h0 : s.e = 0
  · rw [if_pos h0] at h ⊢
    refine ⟨h0, ?_⟩
    split
    · rename_i h1
      rw [if_pos h1] at h
      exact absurd h (fail_ne h0 (by omega))
    · simp; omega
  · rw [if_neg h0] at h; exact absurd h h0
theorem ziJ {c : Bool} {m : Nat} {s : Rd} (h : (zaJ c m s).2.e = 0) : s.e = 0 ∧ s.b = zjI (zaJ c m s).1 ++ (zaJ c m s).2.b := by
  unfold zaJ at h ⊢
  obtain ⟨h1, h2, h3⟩ := takeP_ok h
  obtain ⟨g1, g2⟩ := zci h1
  refine ⟨g1, ?_⟩
  rw [zjI, h3, List.append_assoc, ← h2]
  exact g2
theorem recsB_app (a b : List (List UInt8)) : zcg (a ++ b) = zcg a ++ zcg b := by simp [zcg]
theorem recsP_ok {c : Bool} {s : Rd} : ∀ {k : Nat}, (zdN c k s).2.e = 0 → s.e = 0 ∧ s.b = zcg (zdN c k s).1 ++ (zdN c k s).2.b
  | 0, h => ⟨h, rfl⟩
  | k + 1, h => by
    simp only [zdN] at h ⊢
    obtain ⟨h1, h2⟩ := ziJ h
    obtain ⟨g1, g2⟩ := recsP_ok (k := k) h1
    refine ⟨g1, ?_⟩
    rw [recsB_app, List.append_assoc]
    rw [g2]
    congr 1
    rw [h2]
    simp [zcg]
theorem zbW (c : Bool) {m n : Nat} (hm : n ≤ m) (hn : n < 18446744073709551616) (r : List UInt8) : zax c m ⟨zbQ n ++ r, 0⟩ = (n, ⟨r, 0⟩) := by
  have := numR_put m n 0 0 r (by omega) (by simp; omega) (by omega) (by simp; omega)
  simp only [Nat.pow_zero, Nat.mul_one, Nat.zero_add] at this
  simp only [zax, if_true, this]
theorem zhi (c : Bool) {m : Nat} {x : List UInt8} (hm : x.length ≤ m) (hn : x.length < 18446744073709551616) (r : List UInt8) : zaJ c m ⟨zjI x ++ r, 0⟩ = (x, ⟨r, 0⟩) := by
  rw [zaJ, zjI, List.append_assoc, zbW c hm hn]
  simp only [zcI, if_true, List.length_append]
  rw [if_neg (by omega)]
  simp
theorem recsP_put (c : Bool) {rs : List (List UInt8)} (h : ∀ x ∈ rs, x.length ≤ 64) (r : List UInt8) : ∀ k, k ≤ rs.length → zdN c k ⟨zcg rs ++ r, 0⟩ = (rs.take k, ⟨zcg (rs.drop k) ++ r, 0⟩)
  | 0, _ => by simp [zdN]
  | k + 1, hk => by
    have hd : rs.drop k = rs[k] :: rs.drop (k + 1) := List.drop_eq_getElem_cons (by omega)
    have hb : zcg (rs.drop k) ++ r = zjI rs[k] ++ (zcg (rs.drop (k + 1)) ++ r) := by rw [hd]; simp only [zcg, List.map_cons, List.flatten_cons, List.append_assoc]
    have hl := h rs[k] (List.getElem_mem _)
    rw [zdN, recsP_put c h r k (by omega), hb, zhi c hl (by omega), List.take_add_one]
    simp [List.getElem?_eq_getElem (show k < rs.length by omega)]

theorem znu : ∀ (f : Nat) (s : List UInt8) (n : Nat), zcF f s = some n → s.length ≤ 4 * n
  | 0, _, _, h => by simp [zcF] at h
  | f + 1, s, n, h => by
    simp only [zcF] at h
    split at h
    · rename_i h0; cases h; simp [h0]
    · split at h
      · cases h
      · simp only [Option.map_eq_some_iff] at h
        obtain ⟨m, hm, rfl⟩ := h
        have := znu f _ m hm
        have h4 := (zhh s).2.1
        simp only [List.length_drop] at *
        omega
theorem zmC {s : List UInt8} (h : zaZ s = true) : s.length ≤ 64 := by
  simp only [zaZ, zfb, decide_eq_true_eq] at h
  cases e : zcF (s.length + 1) s with
  | none => simp [e] at h
  | some n =>
    have := znu _ s n e
    simp only [e] at h
    by_cases h16 : n > 16
    · simp [h16] at h
    · omega

structure zu where
  name : List UInt8
  base : Int
  recs : List (List UInt8)
  groups : List (List UInt8 × Int)
structure zak where
  l : List zu
  last : List (Int × Int × Int)
def zbX : zak := ⟨[], List.replicate 8 (0, 0, 0)⟩
abbrev zjy (g : List UInt8 × Int) : List D := [.str g.1, .int .i64 g.2]
abbrev zW (l : List (List UInt8 × Int)) : List (List D) := l.map zjy
def zu.next (x : zu) : Int := x.base + x.recs.length
def atF (n : List UInt8) : List zu → Nat → Option Nat
  | [], _ => none
  | x :: r, i => if (x.name == n) = true then some i else atF n r (i + 1)
def zix (n : List UInt8) : List zu → Nat
  | [] => 0
  | x :: r => if Op.bytesLess x.name n = true then zix n r + 1 else 0
def zif (n : List UInt8) : List (List UInt8 × Int) → Nat
  | [] => 0
  | g :: r => if Op.bytesLess g.1 n = true then zif n r + 1 else 0
abbrev TRes := Int × Int
def zaY (T : zak) (n : List UInt8) : TRes × zak :=
  if (atF n T.l 0).isSome then ((5, 0), T) else if 8 ≤ T.l.length then ((6, 0), T)
  else ((0, 0), { T with l := T.l.take (zix n T.l) ++ ⟨n, 0, [], []⟩ :: T.l.drop (zix n T.l) })
def zeD (t : List UInt8) (o : Int) : List (List UInt8) → List zgR
  | [] => []
  | r :: l => ⟨t, o, r⟩ :: zeD t (o + 1) l
def zbH (T : zak) (i : Nat) (x : zu) (o : TOp) : TRes × List zgR × zak :=
  if 64 < x.recs.length + o.recs.length ∨ 9007199254740992 - (o.recs.length : Int) < x.next then ((71, 0), [], T)
  else ((0, x.next), zeD x.name x.next o.recs, { T with l := T.l.set i { x with recs := x.recs ++ o.recs } })
def zpe (n : List UInt8) (l : List (List UInt8 × Int)) : Option Int := match l[zif n l]? with
  | some g => if (g.1 == n) = true then some g.2 else none
  | none => none
def zaV (T : zak) (i : Nat) (x : zu) (o : TOp) : TRes × zak :=
  if o.offset < (zpe o.group x.groups).getD 0 ∨ x.next < o.offset then ((72, 0), T)
  else if (zpe o.group x.groups).isSome = false ∧ 8 ≤ x.groups.length then ((6, 0), T)
  else ((0, o.offset), { T with l := T.l.set i { x with groups := x.groups.take (zif o.group x.groups) ++ (o.group, o.offset) :: x.groups.drop (zif o.group x.groups + if (zpe o.group x.groups).isSome then 1 else 0) } })
def zib (T : zak) (i : Nat) (x : zu) (o : TOp) : TRes × zak :=
  if o.offset < x.base ∨ x.next < o.offset then ((72, 0), T)
  else ((0, o.offset), { T with l := T.l.set i { x with recs := x.recs.drop (o.offset - x.base).toNat, base := o.offset } })
def zaU (T : zak) (o : TOp) : TRes × List zgR × zak :=
  if zaD zaZ o ≠ 0 then ((zaD zaZ o, 0), [], T)
  else if o.kind = 0 then ((0, 0), [], T)
  else if o.kind = 1 then ((zaY T o.topic).1, [], (zaY T o.topic).2)
  else match atF o.topic T.l 0 with
    | none => ((4, 0), [], T)
    | some i => match T.l[i]? with
      | none => ((4, 0), [], T)
      | some x => if o.kind = 2 then zbH T i x o
        else if o.kind = 3 then ((zaV T i x o).1, [], (zaV T i x o).2)
        else ((zib T i x o).1, [], (zib T i x o).2)
def zaL (T : zak) (c tm : Int) (o : TOp) : TRes × List zgR × Bool × zak :=
  if c < 0 ∨ 8 ≤ c ∨ tm < 1 ∨ 9007199254740992 < tm then ((1, 0), [], false, T)
  else if tm = (T.last.getD c.toNat (0, 0, 0)).1 then ((T.last.getD c.toNat (0, 0, 0)).2, [], false, T)
  else if tm < (T.last.getD c.toNat (0, 0, 0)).1 then ((7, 0), [], false, T)
  else ((zaU T o).1, (zaU T o).2.1, true, { (zaU T o).2.2 with last := (zaU T o).2.2.last.set c.toNat (tm, (zaU T o).1.1, (zaU T o).1.2) })
theorem zlG (T : zak) (o : TOp) : (zaU T o).2.2.last = T.last := by
  unfold zaU zaY zbH zaV zib
  repeat' (first | rfl | split)
theorem zlm (t : List UInt8) : ∀ (l : List (List UInt8)) (o : Int), (zeD t o l).length = l.length
  | [], _ => rfl
  | _ :: l, o => by simp [zeD, zlm t l]
theorem zjJ (t : List UInt8) : ∀ (l : List (List UInt8)) (o : Int) (r : List UInt8), zeD t o (l ++ [r]) = zeD t o l ++ [⟨t, o + l.length, r⟩]
  | [], o, r => by simp [zeD]
  | a :: l, o, r => by
    simp only [List.cons_append, zeD, zjJ t l (o + 1) r, List.length_cons]
    congr 3
    simp; omega
theorem atF_step {n : List UInt8} {l : List zu} {k : Nat} {x : zu} (h : l[k]? = some x) : atF n (l.drop k) k = if (x.name == n) = true then some k else atF n (l.drop (k + 1)) (k + 1) := by
  have hk : k < l.length := (List.getElem?_eq_some_iff.1 h).1
  rw [List.drop_eq_getElem_cons hk, (List.getElem?_eq_some_iff.1 h).2]
  rfl
theorem atF_lt {n : List UInt8} : ∀ {l : List zu} {i k : Nat}, atF n l i = some k → i ≤ k ∧ k < i + l.length
  | [], _, _, h => by simp [atF] at h
  | x :: r, i, k, h => by
    simp only [atF] at h
    split at h
    · cases h; simp
    · have := atF_lt h; simp; omega
theorem zol {n : List UInt8} {l : List zu} {k : Nat} {x : zu} (h : l[k]? = some x) : zix n (l.drop k) = if Op.bytesLess x.name n = true then zix n (l.drop (k + 1)) + 1 else 0 := by
  have hk : k < l.length := (List.getElem?_eq_some_iff.1 h).1
  rw [List.drop_eq_getElem_cons hk, (List.getElem?_eq_some_iff.1 h).2]
  rfl
theorem zom {n : List UInt8} {l : List (List UInt8 × Int)} {k : Nat} {x : List UInt8 × Int} (h : l[k]? = some x) : zif n (l.drop k) = if Op.bytesLess x.1 n = true then zif n (l.drop (k + 1)) + 1 else 0 := by
  have hk : k < l.length := (List.getElem?_eq_some_iff.1 h).1
  rw [List.drop_eq_getElem_cons hk, (List.getElem?_eq_some_iff.1 h).2]
  rfl
abbrev topD (x : zu) : List D := [.str x.name, .int .i64 x.base, .slice (zK x.recs), .slice (zW x.groups)]
abbrev zaE (l : List zu) : List (List D) := l.map topD
abbrev zT (es : List (List D)) : List AV := es.flatten.map .d
theorem zdp {sz : Nat} : ∀ {es : List (List D)}, (∀ e ∈ es, e.length = sz) → (zT es).length = es.length * sz
  | [], _ => by simp [zT]
  | e :: es, h => by
    have h1 := zdp (es := es) fun x hx => h x (List.mem_cons_of_mem _ hx)
    have h2 := h e List.mem_cons_self
    simp only [zT, List.length_map] at h1
    simp only [zT, List.flatten_cons, List.map_append, List.length_append, List.length_map, h1, h2, List.length_cons, Nat.add_mul, Nat.one_mul]
    omega
theorem zor {sz : Nat} : ∀ {es : List (List D)}, (∀ e ∈ es, e.length = sz) → ∀ k, (zT es).take (k * sz) = zT (es.take k)
  | [], _, k => by simp [zT]
  | e :: es, h, k => by
    cases k with
    | zero => simp [zT]
    | succ k =>
      have h1 := zor (es := es) (fun x hx => h x (List.mem_cons_of_mem _ hx)) k
      have h2 := h e List.mem_cons_self
      have e1 : zT (e :: es) = e.map .d ++ zT es := by simp [zT]
      have e2 : zT ((e :: es).take (k + 1)) = e.map .d ++ zT (es.take k) := by simp [zT]
      rw [e1, e2, ← h1, List.take_append, List.length_map, h2, show (k + 1) * sz - sz = k * sz by rw [Nat.add_mul]; omega, List.take_of_length_le (by rw [List.length_map, h2, Nat.add_mul]; omega)]
theorem zlz {sz : Nat} : ∀ {es : List (List D)}, (∀ e ∈ es, e.length = sz) → ∀ k, (zT es).drop (k * sz) = zT (es.drop k)
  | [], _, k => by simp [zT]
  | e :: es, h, k => by
    cases k with
    | zero => simp [zT]
    | succ k =>
      have h1 := zlz (es := es) (fun x hx => h x (List.mem_cons_of_mem _ hx)) k
      have h2 := h e List.mem_cons_self
      have e1 : zT (e :: es) = e.map .d ++ zT es := by simp [zT]
      rw [e1, List.drop_succ_cons, ← h1, List.drop_append, List.length_map, h2, show (k + 1) * sz - sz = k * sz by rw [Nat.add_mul]; omega, List.drop_of_length_le (by rw [List.length_map, h2, Nat.add_mul]; omega)]
      rfl
theorem zhc {sz : Nat} {es : List (List D)} (h : ∀ e ∈ es, e.length = sz) {k : Nat} {e : List D} (he : es[k]? = some e) : ((zT es).drop (k * sz)).take sz = e.map .d := by
  have hk : k < es.length := (List.getElem?_eq_some_iff.1 he).1
  have hl := h e (List.mem_of_getElem? he)
  rw [zlz h, List.drop_eq_getElem_cons hk, (List.getElem?_eq_some_iff.1 he).2]
  simp only [zT, List.flatten_cons, List.map_append]
  rw [List.take_append_of_le_length (by rw [List.length_map, hl]; exact Nat.le_refl _), List.take_of_length_le (by rw [List.length_map, hl]; exact Nat.le_refl _)]
theorem zeU {sz : Nat} {es : List (List D)} (h : ∀ e ∈ es, e.length = sz) {k i : Nat} {e : List D} (he : es[k]? = some e) (hi : i < sz) : (zT es)[k * sz + i]? = (e[i]?).map .d := by
  have h1 := zhc h he
  have h2 : (((zT es).drop (k * sz)).take sz)[i]? = (zT es)[k * sz + i]? := by rw [List.getElem?_take, if_pos hi, List.getElem?_drop]
  rw [← h2, h1, List.getElem?_map]
theorem zkM {sz : Nat} {es : List (List D)} (h : ∀ e ∈ es, e.length = sz) {k i : Nat} {e : List D} (he : es[k]? = some e) (hi : i < sz) (x : D) : (zT es).set (k * sz + i) (.d x) = zT (es.set k (e.set i x)) := by
  have hk : k < es.length := (List.getElem?_eq_some_iff.1 he).1
  have hl := h e (List.mem_of_getElem? he)
  have e0 : es = es.take k ++ e :: es.drop (k + 1) := by
    rw [← (List.getElem?_eq_some_iff.1 he).2, ← List.drop_eq_getElem_cons hk, List.take_append_drop]
  have e1 : es.set k (e.set i x) = es.take k ++ e.set i x :: es.drop (k + 1) := by rw [List.set_eq_take_append_cons_drop, if_pos hk]
  have hlen : (zT (es.take k)).length = k * sz := by
    rw [zdp fun y hy => h y (List.mem_of_mem_take hy), List.length_take, Nat.min_eq_left (by omega)]
  have e2 : zT es = zT (es.take k) ++ (e.map .d ++ zT (es.drop (k + 1))) := by
    conv => lhs; rw [e0]
    simp [zT]
  have e3 : zT (es.set k (e.set i x)) = zT (es.take k) ++ ((e.set i x).map .d ++ zT (es.drop (k + 1))) := by
    rw [e1]; simp [zT]
  rw [e2, e3, List.set_append_right _ _ (by omega), hlen, Nat.add_sub_cancel_left, List.set_append_left _ _ (by rw [List.length_map]; omega), List.map_set]
theorem zbL (l : List zu) : ∀ e ∈ zaE l, e.length = 4 := by
  intro e he
  obtain ⟨x, _, rfl⟩ := List.mem_map.1 he
  rfl
structure TopI (x : zu) : Prop where
  base : 0 ≤ x.base
  next : x.next ≤ 9007199254740992
  recs : x.recs.length ≤ 64
  groups : x.groups.length ≤ 8
  name : x.name.length ≤ 64
  each : ∀ r ∈ x.recs, r.length ≤ 64
  gs : ∀ g ∈ x.groups, g.1.length ≤ 64 ∧ 0 ≤ g.2 ∧ g.2 ≤ 9007199254740992
structure zed (T : zak) : Prop where
  len : T.l.length ≤ 8
  tops : ∀ x ∈ T.l, TopI x
theorem zed.none : zed zbX := ⟨by simp [zbX], by simp [zbX]⟩
theorem check0 {o : TOp} (h : zaD zaZ o = 0) : 0 ≤ o.offset ∧ o.offset ≤ 9007199254740992 ∧ (o.kind ≠ 0 → zaZ o.topic = true) ∧ (o.kind = 3 → zaZ o.group = true) ∧ (o.kind = 2 → ∀ r ∈ o.recs, r.length ≤ 64) := by
  unfold zaD at h
  split at h
  · cases h
  · split at h
    · cases h
    · rename_i h2
      split at h
      · cases h
      · rename_i h3
        split at h
        · cases h
        · rename_i h4
          split at h
          · cases h
          · rename_i h5
            refine ⟨by omega, by omega, fun hk => by simpa [hk] using h2, fun hk => by simpa [hk] using h3, fun hk r hr => ?_⟩
            have : ¬ (o.recs.any (fun r => decide (r.length > 64)) = true) := fun e => h4 ⟨hk, .inr (.inr e)⟩
            simp only [List.any_eq_true, decide_eq_true_eq, not_exists, not_and] at this
            have := this r hr
            omega
theorem zjg {α : Type} {l : List α} {i : Nat} {x y : α} (h : y ∈ l.set i x) : y ∈ l ∨ y = x := List.mem_or_eq_of_mem_set h
theorem doesI {T : zak} (h : zed T) (o : TOp) : zed (zaU T o).2.2 := by
  unfold zaU
  split
  · exact h
  · rename_i hc
    have hc : zaD zaZ o = 0 := by simpa using hc
    obtain ⟨q1, q2, q3, q4, q5⟩ := check0 hc
    split
    · exact h
    · rename_i k0
      have hn := zmC (q3 k0)
      split
      · unfold zaY
        split
        · exact h
        · split
          · exact h
          · refine ⟨by simp only [List.length_append, List.length_take, List.length_cons, List.length_drop]; omega, fun x hx => ?_⟩
            rcases List.mem_append.1 hx with hx | hx
            · exact h.tops x (List.mem_of_mem_take hx)
            · rcases List.mem_cons.1 hx with rfl | hx
              · exact ⟨by simp, by simp [zu.next], by simp, by simp, hn, by simp, by simp⟩
              · exact h.tops x (List.mem_of_mem_drop hx)
      · split
        · exact h
        · rename_i i _
          split
          · exact h
          · rename_i x hx
            have hX := h.tops x (List.mem_of_getElem? hx)
            have a1 := hX.base; have a2 := hX.next; have a3 := hX.recs; have a4 := hX.groups
            split
            · rename_i k2
              unfold zbH
              split
              · exact h
              · rename_i hq
                refine ⟨by simpa using h.len, fun y hy => ?_⟩
                rcases zjg hy with hy | rfl
                · exact h.tops y hy
                · have e : x.next = x.base + x.recs.length := rfl
                  refine ⟨a1, by simp only [zu.next, List.length_append]; omega, by simp; omega, a4, hX.name, fun r hr => ?_, hX.gs⟩
                  rcases List.mem_append.1 hr with hr | hr
                  · exact hX.each r hr
                  · exact q5 k2 r hr
            · split
              · rename_i k3
                have hg := zmC (q4 k3)
                unfold zaV
                split
                · exact h
                · split
                  · exact h
                  · rename_i h6 h7
                    refine ⟨by simpa using h.len, fun y hy => ?_⟩
                    rcases zjg hy with hy | rfl
                    · exact h.tops y hy
                    · refine ⟨a1, a2, a3, ?_, hX.name, hX.each, fun g hg' => ?_⟩
                      · simp only [List.length_append, List.length_take, List.length_cons, List.length_drop]
                        cases hh : zpe o.group x.groups with
                        | none => simp [hh] at h7 ⊢; omega
                        | some v =>
                          have : zif o.group x.groups < x.groups.length := by
                            rw [zpe] at hh
                            split at hh
                            · rename_i g0 hg0; exact (List.getElem?_eq_some_iff.1 hg0).1
                            · cases hh
                          simp; omega
                      · rcases List.mem_append.1 hg' with hg' | hg'
                        · exact hX.gs g (List.mem_of_mem_take hg')
                        · rcases List.mem_cons.1 hg' with rfl | hg'
                          · exact ⟨hg, q1, q2⟩
                          · exact hX.gs g (List.mem_of_mem_drop hg')
              · unfold zib
                split
                · exact h
                · rename_i h6
                  refine ⟨by simpa using h.len, fun y hy => ?_⟩
                  rcases zjg hy with hy | rfl
                  · exact h.tops y hy
                  · have e : x.next = x.base + x.recs.length := rfl
                    exact ⟨q1, by simp only [zu.next, List.length_drop]; omega, by simp; omega, a4, hX.name, fun r hr => hX.each r (List.mem_of_mem_drop hr), hX.gs⟩
theorem applyI {T : zak} (h : zed T) (c tm : Int) (o : TOp) : zed (zaL T c tm o).2.2.2 := by
  unfold zaL
  split
  · exact h
  · split
    · exact h
    · split
      · exact h
      · exact ⟨(doesI h o).len, (doesI h o).tops⟩
def ziB (g : List UInt8 × Int) : List UInt8 := zjI g.1 ++ zbQ g.2.toNat
def zaz (l : List (List UInt8 × Int)) : List UInt8 := (l.map ziB).flatten
def topB (x : zu) : List UInt8 := zjI x.name ++ (zbQ x.base.toNat ++ (zbQ x.recs.length ++ (zcg x.recs ++ (zbQ x.groups.length ++ zaz x.groups))))
def zaR (l : List zu) : List UInt8 := (l.map topB).flatten
def ziA (a : Int × Int × Int) : List UInt8 := zbQ a.1.toNat ++ (zbQ a.2.1.toNat ++ zbQ a.2.2.toNat)
def zaP (l : List (Int × Int × Int)) : List UInt8 := (l.map ziA).flatten
def zic (T : zak) : List UInt8 := zbQ T.l.length ++ (zaR T.l ++ zaP T.last)
theorem zhK {α : Type} {f : α → List UInt8} {n : Nat} : ∀ {l : List α}, (∀ x ∈ l, (f x).length ≤ n) → ((l.map f).flatten).length ≤ l.length * n
  | [], _ => by simp
  | x :: l, h => by
    have h1 := h x List.mem_cons_self
    have h2 := zhK (l := l) fun y hy => h y (List.mem_cons_of_mem _ hy)
    simp only [List.map_cons, List.flatten_cons, List.length_append, List.length_cons, Nat.add_mul, Nat.one_mul]
    omega
theorem zly {g : List UInt8 × Int} (h : g.1.length ≤ 64 ∧ 0 ≤ g.2 ∧ g.2 ≤ 9007199254740992) : (ziB g).length ≤ 84 := by
  have h1 := zfM (x := g.1) (by omega)
  have h2 := zZ (n := g.2.toNat) (by omega)
  simp only [ziB, List.length_append]; omega
theorem topB_len {x : zu} (h : TopI x) : (topB x).length ≤ 5600 := by
  have h1 := zfM (x := x.name) (by have := h.name; omega)
  have e : x.next = x.base + x.recs.length := rfl
  have a1 := h.base; have a2 := h.next; have a3 := h.recs; have a4 := h.groups; have a5 := h.name
  have h2 := zZ (n := x.base.toNat) (by omega)
  have h3 := zZ (n := x.recs.length) (by omega)
  have h4 := zZ (n := x.groups.length) (by omega)
  have h5 : (zcg x.recs).length ≤ x.recs.length * 74 := zhK fun r hr => by have := h.each r hr; have := zfM (x := r) (by omega); omega
  have h6 : (zaz x.groups).length ≤ x.groups.length * 84 := zhK fun g hg => zly (h.gs g hg)
  simp only [topB, List.length_append]; omega
theorem znX {l : List zu} (h : ∀ x ∈ l, TopI x) : (zaR l).length ≤ l.length * 5600 := zhK fun x hx => topB_len (h x hx)
def LastI (l : List (Int × Int × Int)) : Prop := ∀ a ∈ l, (0 ≤ a.1 ∧ a.1 ≤ 9007199254740992) ∧ (0 ≤ a.2.1 ∧ a.2.1 ≤ 9007199254740992) ∧ (0 ≤ a.2.2 ∧ a.2.2 ≤ 9007199254740992)
theorem lastB_len {a : Int × Int × Int} (h : (0 ≤ a.1 ∧ a.1 ≤ 9007199254740992) ∧ (0 ≤ a.2.1 ∧ a.2.1 ≤ 9007199254740992) ∧ (0 ≤ a.2.2 ∧ a.2.2 ≤ 9007199254740992)) : (ziA a).length ≤ 30 := by
  have h1 := zZ (n := a.1.toNat) (by omega)
  have h2 := zZ (n := a.2.1.toNat) (by omega)
  have h3 := zZ (n := a.2.2.toNat) (by omega)
  simp only [ziA, List.length_append]; omega
theorem zon {l : List (Int × Int × Int)} (h : LastI l) : (zaP l).length ≤ l.length * 30 := zhK fun a ha => lastB_len (h a ha)
theorem checkOp_rng (n : List UInt8 → Bool) (o : TOp) : 0 ≤ zaD n o ∧ zaD n o ≤ 100 := by
  unfold zaD
  repeat' split
  all_goals omega
theorem doesR {T : zak} (h : zed T) (o : TOp) : (0 ≤ (zaU T o).1.1 ∧ (zaU T o).1.1 ≤ 9007199254740992) ∧ (0 ≤ (zaU T o).1.2 ∧ (zaU T o).1.2 ≤ 9007199254740992) := by
  unfold zaU
  split
  · have := checkOp_rng zaZ o
    exact ⟨⟨this.1, by simp only; omega⟩, by simp, by simp⟩
  · rename_i hc
    have hc : zaD zaZ o = 0 := by simpa using hc
    obtain ⟨q1, q2, _⟩ := check0 hc
    split
    · simp
    · split
      · unfold zaY
        repeat' split
        all_goals simp
      · split
        · simp
        · split
          · simp
          · rename_i x hx
            have hX := h.tops x (List.mem_of_getElem? hx)
            have a1 := hX.base; have a2 := hX.next
            have e : x.next = x.base + x.recs.length := rfl
            split
            · unfold zbH
              split
              · simp
              · exact ⟨by simp, by simp only; omega, by simp only; omega⟩
            · split
              · unfold zaV
                repeat' split
                all_goals first | simp; done | exact ⟨by simp, q1, q2⟩
              · unfold zib
                split
                · simp
                · exact ⟨by simp, q1, q2⟩
theorem applyL {T : zak} (h : zed T) (hL : LastI T.last) (c tm : Int) (o : TOp) : LastI (zaL T c tm o).2.2.2.last := by
  unfold zaL
  split
  · exact hL
  · rename_i h1
    split
    · exact hL
    · split
      · exact hL
      · intro a ha
        rcases zjg ha with ha | rfl
        · rw [zlG] at ha; exact hL a ha
        · exact ⟨by simp only; omega, doesR h o⟩

theorem less_lt : ∀ (x y : List UInt8), Op.bytesLess x y = decide (x < y)
  | [], [] => by simp [Op.bytesLess]
  | _ :: _, [] => by simp [Op.bytesLess]
  | [], _ :: _ => by simp [Op.bytesLess]
  | a :: x, b :: y => by
    rw [Op.bytesLess, less_lt x y]
    simp only [List.cons_lt_cons_iff]
    by_cases h1 : a < b <;> by_cases h2 : a = b <;> by_cases h3 : x < y <;> simp [h1, h2, h3]
abbrev ltN (a b : List UInt8) : Prop := Op.bytesLess a b = true
theorem zpc {a b : List UInt8} : ltN a b ↔ a < b := by rw [ltN, less_lt]; simp
theorem zgO (a : List UInt8) : ¬ ltN a a := by rw [zpc]; exact List.lt_irrefl a
theorem zen {a b c : List UInt8} (h : ltN a b) (h' : ltN b c) : ltN a c := by rw [zpc] at *; exact List.lt_trans h h'
theorem ltN_total {a b : List UInt8} (h : ¬ ltN a b) (hne : a ≠ b) : ltN b a := by
  rw [zpc] at *
  have h1 : b ≤ a := List.not_lt.1 h
  rcases List.le_iff_lt_or_eq.1 h1 with h2 | h2
  · exact h2
  · exact absurd h2.symm hne
section

variable {α : Type} (f : α → List UInt8)

def zne (n : List UInt8) : List α → Nat
  | [] => 0
  | x :: r => if Op.bytesLess (f x) n = true then zne n r + 1 else 0
def zcV (l : List α) : Prop := (l.map f).Pairwise ltN
variable {f}

theorem zcV.nodup {l : List α} (h : zcV f l) : (l.map f).Nodup := by
  refine List.Pairwise.imp (fun {a b} hab e => ?_) h
  subst e
  exact zgO _ hab
theorem zjc {a : α} {r : List α} : zcV f (a :: r) ↔ (∀ b ∈ r, ltN (f a) (f b)) ∧ zcV f r := by
  rw [zcV, List.map_cons, List.pairwise_cons]
  constructor
  · rintro ⟨h1, h2⟩; exact ⟨fun b hb => h1 _ (List.mem_map_of_mem hb), h2⟩
  · rintro ⟨h1, h2⟩
    refine ⟨fun b hb => ?_, h2⟩
    obtain ⟨c, hc, rfl⟩ := List.mem_map.1 hb
    exact h1 c hc
theorem znd {n : List UInt8} {x : α} (hx : f x = n) : ∀ {l : List α}, zcV f l → (∀ a ∈ l, f a ≠ n) → zcV f (l.take (zne f n l) ++ x :: l.drop (zne f n l))
  | [], _, _ => by simp [zcV, zne]
  | a :: r, h, hn => by
    obtain ⟨h1, h2⟩ := zjc.1 h
    simp only [zne]
    split
    · rename_i ha
      simp only [List.take_succ_cons, List.drop_succ_cons, List.cons_append]
      refine zjc.2 ⟨fun b hb => ?_, znd hx h2 fun a ha => hn a (List.mem_cons_of_mem _ ha)⟩
      rcases List.mem_append.1 hb with hb | hb
      · exact h1 b (List.mem_of_mem_take hb)
      · rcases List.mem_cons.1 hb with rfl | hb
        · rw [hx]; exact ha
        · exact h1 b (List.mem_of_mem_drop hb)
    · rename_i ha
      simp only [List.take_zero, List.drop_zero, List.nil_append]
      have hna : ltN n (f a) := ltN_total ha (hn a List.mem_cons_self)
      refine zjc.2 ⟨fun b hb => ?_, h⟩
      rw [hx]
      rcases List.mem_cons.1 hb with rfl | hb
      · exact hna
      · exact zen hna (h1 b hb)
theorem zgZ {n : List UInt8} : ∀ {l : List α}, zcV f l → ∀ {x : α}, x ∈ l → f x = n → l[zne f n l]? = some x
  | [], _, _, h, _ => by cases h
  | a :: r, h, x, hx, e => by
    obtain ⟨h1, h2⟩ := zjc.1 h
    simp only [zne]
    rcases List.mem_cons.1 hx with rfl | hx
    · rw [if_neg (by rw [e]; exact zgO n)]; rfl
    · have := h1 x hx
      rw [e] at this
      rw [if_pos this, List.getElem?_cons_succ]
      exact zgZ h2 hx e
theorem sortK_set {l : List α} (h : zcV f l) {k : Nat} {x y : α} (hx : l[k]? = some x) (e : f y = f x) : zcV f (l.set k y) := by
  rw [zcV, List.map_set, e]
  have : (l.map f).set k (f x) = l.map f := by
    apply List.ext_getElem?
    intro i
    rw [List.getElem?_set]
    split
    · rename_i hi
      subst hi
      split
      · rw [List.getElem?_map, hx]; rfl
      · rename_i hk
        have := (List.getElem?_eq_some_iff.1 hx).1
        simp at hk; omega
    · rfl
  rw [this]; exact h
theorem zks {l : List α} (h : zcV f l) {x y : α} (hx : x ∈ l) (hy : y ∈ l) (e : f x = f y) : x = y := by
  have h1 := zgZ h hx rfl
  have h2 := zgZ h hy e.symm
  rw [h1] at h2; exact Option.some.inj h2
end

theorem lessN_K (n : List UInt8) : ∀ l, zix n l = zne zu.name n l
  | [] => rfl
  | x :: r => by simp only [zix, zne, lessN_K n r]
theorem znf (n : List UInt8) : ∀ l, zif n l = zne Prod.fst n l
  | [] => rfl
  | x :: r => by simp only [zif, zne, znf n r]

def zgy (n : List UInt8) : List (List UInt8 × Int) → Nat → Option (Nat × Int)
  | [], _ => none
  | g :: r, i => if n = g.1 then some (i, g.2) else zgy n r (i + 1)
def putA (n : List UInt8) (v : Int) (l : List (List UInt8 × Int)) : List (List UInt8 × Int) := match zgy n l 0 with
  | some (k, _) => l.set k (n, v)
  | none => l ++ [(n, v)]
theorem zga {n : List UInt8} : ∀ {l : List (List UInt8 × Int)} {i k : Nat} {v : Int}, zgy n l i = some (k, v) → ∃ j, k = i + j ∧ l[j]? = some (n, v)
  | [], _, _, _, h => by simp [zgy] at h
  | g :: r, i, k, v, h => by
    simp only [zgy] at h
    split at h
    · rename_i e; cases h; exact ⟨0, rfl, by rw [e]; rfl⟩
    · obtain ⟨j, h1, h2⟩ := zga h
      exact ⟨j + 1, by omega, by simpa using h2⟩
theorem zjk {n : List UInt8} : ∀ {l : List (List UInt8 × Int)} {i : Nat}, zgy n l i = none → ∀ g ∈ l, g.1 ≠ n
  | [], _, _, g, hg => by cases hg
  | a :: r, i, h, g, hg => by
    simp only [zgy] at h
    split at h
    · cases h
    · rename_i e
      rcases List.mem_cons.1 hg with rfl | hg
      · exact fun e' => e e'.symm
      · exact zjk h g hg
structure GR (G L : List (List UInt8 × Int)) : Prop where
  len : G.length = L.length
  sort : zcV Prod.fst L
  nod : (G.map Prod.fst).Nodup
  mem : ∀ a, a ∈ G ↔ a ∈ L
theorem GR.nil : GR [] [] := ⟨rfl, by simp [zcV], by simp, by simp⟩
theorem zkC {α β : Type} {f : α → β} : ∀ {l : List α}, (l.map f).Nodup → ∀ {i j : Nat} {a b : α}, l[i]? = some a → l[j]? = some b → f a = f b → i = j := by
  intro l h i j a b hi hj e
  have h1 : (l.map f)[i]? = some (f a) := by rw [List.getElem?_map, hi]; rfl
  have h2 : (l.map f)[j]? = some (f a) := by rw [List.getElem?_map, hj, e]; rfl
  obtain ⟨g1, g2⟩ := List.getElem?_eq_some_iff.1 h1
  obtain ⟨g3, g4⟩ := List.getElem?_eq_some_iff.1 h2
  rcases Nat.lt_trichotomy i j with hij | hij | hij
  · exact absurd (g2.trans g4.symm) (List.pairwise_iff_getElem.1 h i j g1 g3 hij)
  · exact hij
  · exact absurd (g4.trans g2.symm) (List.pairwise_iff_getElem.1 h j i g3 g1 hij)
theorem GR.had {G L : List (List UInt8 × Int)} (h : GR G L) (n : List UInt8) : zpe n L = (zgy n G 0).map Prod.snd := by
  cases hf : zgy n G 0 with
  | none =>
    have h1 := zjk hf
    unfold zpe
    split
    · rename_i g hg
      rw [if_neg]; rfl
      intro e
      exact h1 g ((h.mem g).2 (List.mem_of_getElem? hg)) (by simpa using e)
    · rfl
  | some q =>
    obtain ⟨k, v⟩ := q
    obtain ⟨j, rfl, hj⟩ := zga hf
    have h2 := (h.mem _).1 (List.mem_of_getElem? hj)
    unfold zpe
    rw [znf, zgZ h.sort h2 rfl]
    simp
theorem zdq {α : Type} {l : List α} {k : Nat} {x y : α} : y ∈ l.set k x → y = x ∨ ∃ j, j ≠ k ∧ l[j]? = some y := by
  intro h
  obtain ⟨j, hj⟩ := List.mem_iff_getElem?.1 h
  by_cases e : j = k
  · subst e
    have hl : j < l.length := by have := (List.getElem?_eq_some_iff.1 hj).1; simpa using this
    rw [List.getElem?_set_self hl] at hj
    exact .inl (Option.some.inj hj).symm
  · rw [List.getElem?_set_ne (Ne.symm e)] at hj
    exact .inr ⟨j, e, hj⟩
theorem zjh {α : Type} {l : List α} {j k : Nat} {x y : α} (h : l[j]? = some y) (e : j ≠ k) : y ∈ l.set k x :=
  List.mem_iff_getElem?.2 ⟨j, by rw [List.getElem?_set_ne (Ne.symm e)]; exact h⟩
theorem mem_set_self' {α : Type} {l : List α} {k : Nat} {x y : α} (h : l[k]? = some y) : x ∈ l.set k x :=
  List.mem_iff_getElem?.2 ⟨k, by rw [List.getElem?_set_self (List.getElem?_eq_some_iff.1 h).1]⟩
theorem zoL {α : Type} {l : List α} {k : Nat} {x y : α} (h : l[k]? = some y) : l.take k ++ x :: l.drop (k + 1) = l.set k x := by
  rw [List.set_eq_take_append_cons_drop, if_pos (List.getElem?_eq_some_iff.1 h).1]
theorem znb {α : Type} {f : α → List UInt8} {l : List α} {k : Nat} {x y : α} (hx : l[k]? = some x) (e : f y = f x) : (l.set k y).map f = l.map f := by
  rw [List.map_set, e]
  apply List.ext_getElem?
  intro i
  rw [List.getElem?_set]
  split
  · rename_i hi
    subst hi
    split
    · rw [List.getElem?_map, hx]; rfl
    · rename_i hk
      have := (List.getElem?_eq_some_iff.1 hx).1
      simp at hk; omega
  · rfl
theorem GR.put {G L : List (List UInt8 × Int)} (h : GR G L) (n : List UInt8) (v : Int) : GR (putA n v G) (L.take (zif n L) ++ (n, v) :: L.drop (zif n L + if (zpe n L).isSome then 1 else 0)) := by
  have hh := h.had n
  unfold putA
  cases hf : zgy n G 0 with
  | none =>
    have h1 := zjk hf
    have hL : ∀ a ∈ L, a.1 ≠ n := fun a ha => h1 a ((h.mem a).2 ha)
    rw [hf] at hh
    rw [hh]
    simp only [Option.map_none, Option.isSome_none, Bool.false_eq_true, if_false, Nat.add_zero]
    refine ⟨?_, ?_, ?_, fun a => ?_⟩
    · have := List.take_append_drop (zif n L) L
      have h3 := congrArg List.length this
      have h4 := h.len
      simp only [List.length_append, List.length_cons, List.length_nil] at h3 ⊢; omega
    · rw [znf]; exact znd (f := Prod.fst) (x := (n, v)) rfl h.sort hL
    · rw [List.map_append, List.nodup_append]
      refine ⟨h.nod, by simp, ?_⟩
      intro a ha b hb
      simp at hb; subst hb
      obtain ⟨c, hc, rfl⟩ := List.mem_map.1 ha
      exact h1 c hc
    · have := List.take_append_drop (zif n L) L
      rw [List.mem_append, h.mem]
      constructor
      · rintro (ha | ha)
        · rw [← this] at ha
          rcases List.mem_append.1 ha with ha | ha <;> simp [ha]
        · simp at ha; subst ha; simp
      · intro ha
        rcases List.mem_append.1 ha with ha | ha
        · exact .inl (List.mem_of_mem_take ha)
        · rcases List.mem_cons.1 ha with rfl | ha
          · simp
          · exact .inl (List.mem_of_mem_drop ha)
  | some q =>
    obtain ⟨k, w⟩ := q
    obtain ⟨j, rfl, hj⟩ := zga hf
    have hm := (h.mem _).1 (List.mem_of_getElem? hj)
    have hL := zgZ h.sort hm rfl
    rw [hf] at hh
    rw [hh]
    simp only [Option.map_some, Option.isSome_some, if_true, Nat.zero_add]
    rw [znf]
    simp only at hL
    rw [zoL hL]
    refine ⟨by simp [h.len], sortK_set h.sort hL rfl, by rw [znb (f := Prod.fst) (y := (n, v)) hj rfl]; exact h.nod, fun a => ?_⟩
    constructor
    · intro ha
      rcases zdq ha with rfl | ⟨i, hi, hx⟩
      · exact mem_set_self' hL
      · have := (h.mem a).1 (List.mem_of_getElem? hx)
        obtain ⟨i2, hi2⟩ := List.mem_iff_getElem?.1 this
        refine zjh hi2 fun e => hi ?_
        subst e
        rw [hL] at hi2; cases hi2
        exact zkC h.nod hx hj rfl
    · intro ha
      rcases zdq ha with rfl | ⟨i, hi, hx⟩
      · exact mem_set_self' hj
      · have := (h.mem a).2 (List.mem_of_getElem? hx)
        obtain ⟨i2, hi2⟩ := List.mem_iff_getElem?.1 this
        refine zjh hi2 fun e => hi ?_
        subst e
        rw [hj] at hi2; cases hi2
        exact zkC h.sort.nodup hx hL rfl

structure zeA where
  x : zu
  id : Nat
  g : Nat
  t : Nat
abbrev zeA.name (p : zeA) : List UInt8 := p.x.name
def zfQ (n : List UInt8) : List zeA → Nat → Option (Nat × zeA)
  | [], _ => none
  | p :: r, i => if n = p.x.name then some (i, p) else zfQ n r (i + 1)
theorem zlA {n : List UInt8} : ∀ {l : List zeA} {i k : Nat} {p : zeA}, zfQ n l i = some (k, p) → ∃ j, k = i + j ∧ l[j]? = some p ∧ p.x.name = n
  | [], _, _, _, h => by simp [zfQ] at h
  | g :: r, i, k, v, h => by
    simp only [zfQ] at h
    split at h
    · rename_i e; cases h; exact ⟨0, rfl, rfl, e.symm⟩
    · obtain ⟨j, h1, h2, h3⟩ := zlA h
      exact ⟨j + 1, by omega, by simpa using h2, h3⟩
theorem zhd {n : List UInt8} : ∀ {l : List zeA} {i : Nat}, zfQ n l i = none → ∀ p ∈ l, p.x.name ≠ n
  | [], _, _, g, hg => by cases hg
  | a :: r, i, h, g, hg => by
    simp only [zfQ] at h
    split at h
    · cases h
    · rename_i e
      rcases List.mem_cons.1 hg with rfl | hg
      · exact fun e' => e e'.symm
      · exact zhd h g hg
structure TR (x y : zu) : Prop where
  name : x.name = y.name
  base : x.base = y.base
  recs : x.recs = y.recs
  gr : GR x.groups y.groups
theorem TR.next {x y : zu} (h : TR x y) : x.next = y.next := by rw [zu.next, h.base, h.recs]; rfl
structure Rel (X : List zeA) (T : List zu) : Prop where
  len : X.length = T.length
  sort : zcV zu.name T
  nod : (X.map zeA.name).Nodup
  fw : ∀ p ∈ X, ∃ y ∈ T, TR p.x y
  bw : ∀ y ∈ T, ∃ p ∈ X, TR p.x y
theorem Rel.nil : Rel [] [] := ⟨rfl, by simp [zcV], by simp, by simp, by simp⟩
theorem zjn {n : List UInt8} : ∀ {l : List zu} {i k : Nat}, atF n l i = some k → ∃ j y, k = i + j ∧ l[j]? = some y ∧ y.name = n
  | [], _, _, h => by simp [atF] at h
  | x :: r, i, k, h => by
    simp only [atF] at h
    split at h
    · rename_i e; cases h; exact ⟨0, x, rfl, rfl, by simpa using e⟩
    · obtain ⟨j, y, h1, h2, h3⟩ := zjn h
      exact ⟨j + 1, y, by omega, by simpa using h2, h3⟩
theorem atF_none {n : List UInt8} : ∀ {l : List zu} {i : Nat}, atF n l i = none → ∀ y ∈ l, y.name ≠ n
  | [], _, _, g, hg => by cases hg
  | a :: r, i, h, g, hg => by
    simp only [atF] at h
    split at h
    · cases h
    · rename_i e
      rcases List.mem_cons.1 hg with rfl | hg
      · simpa using e
      · exact atF_none h g hg
theorem Rel.no {X : List zeA} {T : List zu} (h : Rel X T) {n : List UInt8} (hf : zfQ n X 0 = none) : atF n T 0 = none := by
  cases ha : atF n T 0 with
  | none => rfl
  | some k =>
    obtain ⟨j, y, _, h2, h3⟩ := zjn ha
    obtain ⟨p, hp, hr⟩ := h.bw y (List.mem_of_getElem? h2)
    exact absurd (hr.name.trans h3) (zhd hf p hp)
theorem Rel.yes {X : List zeA} {T : List zu} (h : Rel X T) {n : List UInt8} {i : Nat} {p : zeA} (hf : zfQ n X 0 = some (i, p)) : X[i]? = some p ∧ p.x.name = n ∧ ∃ k y, atF n T 0 = some k ∧ T[k]? = some y ∧ TR p.x y := by
  obtain ⟨j, e, h1, h2⟩ := zlA hf
  rw [Nat.zero_add] at e; subst e
  refine ⟨h1, h2, ?_⟩
  obtain ⟨y, hy, hr⟩ := h.fw p (List.mem_of_getElem? h1)
  cases ha : atF n T 0 with
  | none => exact absurd (hr.name.symm.trans h2) (atF_none ha y hy)
  | some k =>
    obtain ⟨j, z, e, h3, h4⟩ := zjn ha
    rw [Nat.zero_add] at e; subst e
    have : z = y := zks h.sort (List.mem_of_getElem? h3) hy (h4.trans (h2.symm.trans hr.name))
    subst this
    exact ⟨k, z, rfl, h3, hr⟩
theorem Rel.set {X : List zeA} {T : List zu} (h : Rel X T) {i k : Nat} {p p' : zeA} {y y' : zu} (hp : X[i]? = some p) (hy : T[k]? = some y) (hr : TR p.x y) (hr' : TR p'.x y') (hn : p'.x.name = p.x.name) : Rel (X.set i p') (T.set k y') := by
  have hn' : y'.name = y.name := hr'.name.symm.trans (hn.trans hr.name)
  refine ⟨by simp [h.len], sortK_set h.sort hy hn', by rw [znb hp hn]; exact h.nod, fun q hq => ?_, fun z hz => ?_⟩
  · rcases zdq hq with rfl | ⟨j, hj, hx⟩
    · exact ⟨y', mem_set_self' hy, hr'⟩
    · obtain ⟨z, hz, hrz⟩ := h.fw q (List.mem_of_getElem? hx)
      obtain ⟨j2, hj2⟩ := List.mem_iff_getElem?.1 hz
      refine ⟨z, zjh hj2 fun e => hj ?_, hrz⟩
      subst e
      rw [hy] at hj2; cases hj2
      exact zkC h.nod hx hp (hrz.name.trans hr.name.symm)
  · rcases zdq hz with rfl | ⟨j, hj, hx⟩
    · exact ⟨p', mem_set_self' hp, hr'⟩
    · obtain ⟨q, hq, hrq⟩ := h.bw z (List.mem_of_getElem? hx)
      obtain ⟨j2, hj2⟩ := List.mem_iff_getElem?.1 hq
      refine ⟨q, zjh hj2 fun e => hj ?_, hrq⟩
      subst e
      rw [hp] at hj2; cases hj2
      exact zkC h.sort.nodup hx hy (hrq.name.symm.trans hr.name)
theorem Rel.add {X : List zeA} {T : List zu} (h : Rel X T) {n : List UInt8} (hf : zfQ n X 0 = none) {p : zeA} {y : zu} (hr : TR p.x y) (hn : y.name = n) : Rel (X ++ [p]) (T.take (zix n T) ++ y :: T.drop (zix n T)) := by
  have h1 := zhd hf
  have hT : ∀ a ∈ T, a.name ≠ n := fun a ha e => by
    obtain ⟨q, hq, hrq⟩ := h.bw a ha
    exact h1 q hq (hrq.name.trans e)
  have htd := List.take_append_drop (zix n T) T
  refine ⟨?_, ?_, ?_, fun q hq => ?_, fun z hz => ?_⟩
  · have h3 := congrArg List.length htd
    have h4 := h.len
    simp only [List.length_append, List.length_cons, List.length_nil] at h3 ⊢; omega
  · rw [lessN_K]; exact znd hn h.sort hT
  · rw [List.map_append, List.nodup_append]
    refine ⟨h.nod, by simp, ?_⟩
    intro a ha b hb
    simp at hb; subst hb
    obtain ⟨c, hc, rfl⟩ := List.mem_map.1 ha
    have : p.x.name = n := hr.name.trans hn
    intro e
    exact h1 c hc (e.trans this)
  · rcases List.mem_append.1 hq with hq | hq
    · obtain ⟨z, hz, hrz⟩ := h.fw q hq
      rw [← htd] at hz
      refine ⟨z, ?_, hrz⟩
      rcases List.mem_append.1 hz with hz | hz <;> simp [hz]
    · simp at hq; subst hq
      exact ⟨y, by simp, hr⟩
  · rcases List.mem_append.1 hz with hz | hz
    · obtain ⟨q, hq, hrq⟩ := h.bw z (List.mem_of_mem_take hz)
      exact ⟨q, by simp [hq], hrq⟩
    · rcases List.mem_cons.1 hz with rfl | hz
      · exact ⟨p, by simp, hr⟩
      · obtain ⟨q, hq, hrq⟩ := h.bw z (List.mem_of_mem_drop hz)
        exact ⟨q, by simp [hq], hrq⟩

theorem nodup_le : ∀ {l m : List Nat}, l.Nodup → (∀ x ∈ l, x ∈ m) → l.length ≤ m.length
  | [], m, _, _ => by simp
  | a :: r, m, hn, hs => by
    have ha := hs a List.mem_cons_self
    obtain ⟨h1, h2⟩ := List.nodup_cons.1 hn
    have := nodup_le (l := r) (m := m.erase a) h2 fun x hx => (List.mem_erase_of_ne (a := x) (b := a) (fun e => h1 (by rw [← e]; exact hx))).2 (hs x (List.mem_cons_of_mem _ hx))
    rw [List.length_erase_of_mem ha] at this
    have := List.length_pos_of_mem ha
    simp only [List.length_cons]; omega
def zhW {α : Type} (bs : List Nat) (names : List α) (seen : List Nat) (ys : List α) : Prop :=
  seen.length = ys.length ∧ ∀ (j : Nat) (b : Nat) (y : α), seen[j]? = some b → ys[j]? = some y → ∃ i : Nat, bs[i]? = some b ∧ names[i]? = some y
theorem zhW.nil {α : Type} {bs : List Nat} {names : List α} : zhW bs names [] [] := ⟨rfl, by simp⟩
theorem zhW.snoc {α : Type} {bs : List Nat} {names : List α} {seen : List Nat} {ys : List α} (h : zhW bs names seen ys) {i b : Nat} {y : α} (h1 : bs[i]? = some b) (h2 : names[i]? = some y) : zhW bs names (seen ++ [b]) (ys ++ [y]) := by
  refine ⟨by simp [h.1], fun j c z hc hz => ?_⟩
  rw [List.getElem?_append] at hc hz
  split at hc
  · rename_i hj
    rw [if_pos (by rw [← h.1]; exact hj)] at hz
    exact h.2 j c z hc hz
  · rename_i hj
    rw [if_neg (by rw [← h.1]; exact hj)] at hz
    have e1 := (List.getElem?_eq_some_iff.1 hc).1
    simp only [List.length_cons, List.length_nil] at e1
    rw [h.1] at hc hj e1
    have e : j - ys.length = 0 := by omega
    rw [e] at hc hz
    simp at hc hz
    subst hc; subst hz
    exact ⟨i, h1, h2⟩
theorem zhW.sub {α : Type} {bs : List Nat} {names : List α} {seen : List Nat} {ys : List α} (h : zhW bs names seen ys) : ∀ b ∈ seen, b ∈ bs := by
  intro b hb
  obtain ⟨j, hj⟩ := List.mem_iff_getElem?.1 hb
  have hl := (List.getElem?_eq_some_iff.1 hj).1
  rw [h.1] at hl
  obtain ⟨i, h1, _⟩ := h.2 j b _ hj (List.getElem?_eq_getElem hl)
  exact List.mem_of_getElem? h1
theorem zhW.lt {α : Type} {bs : List Nat} {names : List α} {seen : List Nat} {ys : List α} (h : zhW bs names seen ys) (hn : seen.Nodup) (hl : bs.length = names.length) {b : Nat} (h1 : b ∈ bs) (h2 : b ∉ seen) : ys.length < names.length := by
  have := nodup_le (l := b :: seen) (m := bs) (List.nodup_cons.2 ⟨h2, hn⟩) fun x hx => by
    rcases List.mem_cons.1 hx with rfl | hx
    · exact h1
    · exact h.sub x hx
  simp only [List.length_cons] at this
  rw [← hl, ← h.1]; omega
theorem nodup_get {l : List Nat} (h : l.Nodup) {i j x : Nat} (hi : l[i]? = some x) (hj : l[j]? = some x) : i = j := by
  obtain ⟨a, b⟩ := List.getElem?_eq_some_iff.1 hi
  obtain ⟨c, d⟩ := List.getElem?_eq_some_iff.1 hj
  rcases Nat.lt_trichotomy i j with hij | hij | hij
  · exact absurd (b.trans d.symm) (List.pairwise_iff_getElem.1 h i j a c hij)
  · exact hij
  · exact absurd (d.trans b.symm) (List.pairwise_iff_getElem.1 h j i c a hij)
theorem zmK {α : Type} : ∀ {l : List Nat} {m : List α}, l.Nodup → (l.zip m).Nodup
  | [], _, _ => by simp
  | _ :: _, [], _ => by simp
  | a :: l, b :: m, h => by
    obtain ⟨h1, h2⟩ := List.nodup_cons.1 h
    rw [List.zip_cons_cons, List.nodup_cons]
    exact ⟨fun hm => h1 (List.of_mem_zip hm).1, zmK h2⟩
theorem zhW.perm {α : Type} {bs : List Nat} {names : List α} {seen : List Nat} {ys : List α} (h : zhW bs names seen ys) (hn : seen.Nodup) (hb : bs.Nodup) (hl : bs.length = names.length) (ha : ∀ b ∈ bs, b ∈ seen) : ys.Perm names := by
  have key : ∀ (i : Nat) b y, bs[i]? = some b → names[i]? = some y → (b, y) ∈ bs.zip names := fun i b y h1 h2 => List.mem_iff_getElem?.2 ⟨i, List.getElem?_zip_eq_some.2 ⟨h1, h2⟩⟩
  have hp : (seen.zip ys).Perm (bs.zip names) := by
    refine (List.perm_ext_iff_of_nodup (zmK hn) (zmK hb)).2 fun p => ?_
    obtain ⟨b, y⟩ := p
    constructor
    · intro hm
      obtain ⟨j, hj⟩ := List.mem_iff_getElem?.1 hm
      obtain ⟨h1, h2⟩ := List.getElem?_zip_eq_some.1 hj
      obtain ⟨i, h3, h4⟩ := h.2 j b y h1 h2
      exact key i b y h3 h4
    · intro hm
      obtain ⟨j, hj⟩ := List.mem_iff_getElem?.1 hm
      obtain ⟨h1, h2⟩ := List.getElem?_zip_eq_some.1 hj
      obtain ⟨k, hk⟩ := List.mem_iff_getElem?.1 (ha b (List.mem_of_getElem? h1))
      have hkl := (List.getElem?_eq_some_iff.1 hk).1
      rw [h.1] at hkl
      obtain ⟨i, h3, h4⟩ := h.2 k b _ hk (List.getElem?_eq_getElem hkl)
      have := nodup_get hb h1 h3
      subst this
      rw [h2] at h4
      refine List.mem_iff_getElem?.2 ⟨k, List.getElem?_zip_eq_some.2 ⟨hk, ?_⟩⟩
      rw [List.getElem?_eq_getElem hkl, h4]
  have := hp.map Prod.snd
  rwa [List.map_snd_zip (by rw [h.1]; exact Nat.le_refl _), List.map_snd_zip (by rw [hl]; exact Nat.le_refl _)] at this
theorem sort_names {ys L : List (List UInt8)} (hp : ys.Perm L) (hs : L.Pairwise ltN) : (ys.mergeSort fun x y => decide (x ≤ y)) = L := by
  have h1 : (ys.mergeSort fun x y => decide (x ≤ y)).Perm L := (List.mergeSort_perm ys _).trans hp
  have h2 := List.pairwise_mergeSort (le := fun x y : List UInt8 => decide (x ≤ y)) (fun a b c hab hbc => by
      simp only [decide_eq_true_eq] at *; exact List.le_trans hab hbc) (fun a b => by
      have := List.le_total a b; simpa using this) ys
  refine List.Perm.eq_of_pairwise (le := fun x y => x ≤ y) (fun a b _ _ h3 h4 => List.le_antisymm h3 h4) ?_ ?_ h1
  · exact h2.imp fun h => by simpa using h
  · exact hs.imp fun h => List.le_of_lt (zpc.1 h)
end Go.AW
