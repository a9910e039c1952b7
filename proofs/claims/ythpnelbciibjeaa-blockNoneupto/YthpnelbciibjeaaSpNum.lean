/- How a number is put: seven bits a byte. No program in sight. -/
import Derived.IntWalk
import Derived.Test.YthpnelbciibjeaaAwEnd
import Derived.Test.YthpnelbciibjeaaAwRun
set_option linter.all false
namespace Go.AW

def zbB (n : Nat) : List UInt8 := if n < 128 then [UInt8.ofNat n] else UInt8.ofNat (n % 128 + 128) :: zbB (n / 128)
termination_by n
decreasing_by omega

theorem zjX {n : Nat} (h : n < 128) : zbB n = [UInt8.ofNat n] := by rw [zbB, if_pos h]
theorem numB_big {n : Nat} (h : ¬ n < 128) : zbB n = UInt8.ofNat (n % 128 + 128) :: zbB (n / 128) := by rw [zbB, if_neg h]
theorem numB_len : ∀ (k n : Nat), n < 128 ^ (k + 1) → 1 ≤ (zbB n).length ∧ (zbB n).length ≤ k + 1
  | 0, n, h => by rw [zjX (by simpa using h)]; simp
  | k + 1, n, h => by
    by_cases hs : n < 128
    · rw [zjX hs]; simp
    · rw [numB_big hs]
      have := numB_len k (n / 128) (by rw [Nat.div_lt_iff_lt_mul (by omega)]; rw [Nat.pow_succ] at h; exact h)
      simp; omega
theorem zk {n : Nat} (h : n < 18446744073709551616) : 1 ≤ (zbB n).length ∧ (zbB n).length ≤ 10 := numB_len 9 n (by omega)

theorem or128 : ∀ x : Fin 256, (BitVec.ofInt 8 (x.val : Int) ||| BitVec.ofInt 8 128).toNat = x.val % 128 + 128 := by decide +kernel
theorem wrap8 (n : Nat) : IntKind.u8.wrap (n : Int) = ((n % 256 : Nat) : Int) := by
  simp [IntKind.wrap, IntKind.signed, IntKind.bits]
theorem wrap8_lt {n : Nat} (h : n < 256) : IntKind.u8.wrap (n : Int) = (n : Int) := by rw [wrap8, Nat.mod_eq_of_lt h]
theorem zcp {n : Nat} (h : n < 18446744073709551616) : IntKind.u64.wrap (n : Int) = (n : Int) := by
  simp [IntKind.wrap, IntKind.signed, IntKind.bits]
  omega
theorem zbJ {n : Int} (h1 : -9223372036854775808 ≤ n) (h2 : n ≤ 9223372036854775807) : IntKind.i64.wrap n = n := IntWalk.i64_in n ⟨h1, h2⟩
theorem zkl {n : Nat} (h : n < 256) : ((UInt8.ofNat n).toNat : Int) = (n : Int) := by
  simp; omega

structure TOp where
  kind : Int
  topic : List UInt8
  group : List UInt8
  offset : Int
  recs : List (List UInt8)
deriving DecidableEq

def zbK (rs : List (List UInt8)) : List (List D) := rs.map fun r => [D.slice (bcs r)]
def opA (o : TOp) : AV := .agg [.d (.int .i64 o.kind), .d (.str o.topic), .d (.str o.group), .d (.int .i64 o.offset), .d (.slice (zbK o.recs))]
def noOp : TOp := ⟨0, [], [], 0, []⟩

theorem zlu (rs : List (List UInt8)) : ∀ e ∈ zbK rs, e.length = 1 := by
  intro e he
  obtain ⟨r, _, rfl⟩ := List.mem_map.1 he
  rfl
theorem zD (rs : List (List UInt8)) : (zbK rs).length = rs.length := by simp [zbK]
theorem zgW {rs : List (List UInt8)} {k : Nat} {r : List UInt8} (h : rs[k]? = some r) : (zbK rs)[k]? = some [D.slice (bcs r)] := by simp [zbK, h]

def onlyF (o : TOp) : TOp :=
  if o.kind = 1 then { noOp with kind := o.kind, topic := o.topic }
  else if o.kind = 2 then { noOp with kind := o.kind, topic := o.topic, recs := o.recs }
  else if o.kind = 3 then { noOp with kind := o.kind, topic := o.topic, group := o.group, offset := o.offset }
  else if o.kind = 4 then { noOp with kind := o.kind, topic := o.topic, offset := o.offset }
  else { noOp with kind := o.kind }
def zhF (o : TOp) : Bool := decide (0 ≤ o.kind ∧ o.kind ≤ 4)
def zai (name : List UInt8 → Bool) (o : TOp) : Int :=
  if zhF o = false ∨ o ≠ onlyF o then 60
  else if o.kind ≠ 0 ∧ name o.topic = false then 61
  else if o.kind = 3 ∧ name o.group = false then 61
  else if o.kind = 2 ∧ (o.recs.length < 1 ∨ o.recs.length > 4 ∨ o.recs.any (fun r => decide (r.length > 64)) = true) then 62
  else if o.offset < 0 ∨ o.offset > 9007199254740992 then 60
  else 0

def ziU (x : List UInt8) : List UInt8 := zbB x.length ++ x
def zeC (rs : List (List UInt8)) : List UInt8 := (rs.map ziU).flatten
def opB (o : TOp) : List UInt8 :=
  zbB o.kind.toNat ++ ((if o.kind ≠ 0 then ziU o.topic else []) ++
    (if o.kind = 2 then zbB o.recs.length ++ zeC o.recs else if o.kind = 3 then ziU o.group ++ zbB o.offset.toNat else if o.kind = 4 then zbB o.offset.toNat else []))
theorem opB_0 {o : TOp} (h : o.kind = 0) : opB o = zbB o.kind.toNat := by simp [opB, h]
theorem opB_1 {o : TOp} (h : o.kind = 1) : opB o = zbB o.kind.toNat ++ (zbB o.topic.length ++ o.topic) := by simp [opB, h, ziU]
theorem opB_2 {o : TOp} (h : o.kind = 2) : opB o = zbB o.kind.toNat ++ (zbB o.topic.length ++ (o.topic ++ (zbB o.recs.length ++ zeC o.recs))) := by simp [opB, h, ziU]
theorem opB_3 {o : TOp} (h : o.kind = 3) : opB o = zbB o.kind.toNat ++ (zbB o.topic.length ++ (o.topic ++ (zbB o.group.length ++ (o.group ++ zbB o.offset.toNat)))) := by simp [opB, h, ziU]
theorem opB_4 {o : TOp} (h : o.kind = 4) : opB o = zbB o.kind.toNat ++ (zbB o.topic.length ++ (o.topic ++ zbB o.offset.toNat)) := by simp [opB, h, ziU]
def zlx (o : TOp) : Nat := o.topic.length + o.group.length + (o.recs.map fun r => r.length + 10).sum
theorem zdx {x : List UInt8} (h : x.length < 18446744073709551616) : (ziU x).length ≤ x.length + 10 := by
  have := zk h
  simp only [ziU, List.length_append]; omega
theorem zih (rs : List (List UInt8)) (h : (rs.map fun r => r.length + 10).sum ≤ 1073741824) : ∀ k, (zeC (rs.take k)).length ≤ (rs.map fun r => r.length + 10).sum := by
  have key : ∀ l : List (List UInt8), (l.map fun r => r.length + 10).sum ≤ 1073741824 → (zeC l).length ≤ (l.map fun r => r.length + 10).sum := by
    intro l
    induction l with
    | nil => simp [zeC]
    | cons r l ih =>
      intro h
      simp only [List.map_cons, List.sum_cons] at h ⊢
      have h1 := ih (by omega)
      have h2 := zdx (x := r) (by omega)
      simp only [zeC, List.map_cons, List.flatten_cons, List.length_append] at h1 ⊢
      omega
  have sum_take : ∀ (l : List (List UInt8)) k, ((l.take k).map fun r => r.length + 10).sum ≤ (l.map fun r => r.length + 10).sum := by
    intro l
    induction l with
    | nil => simp
    | cons r l ih =>
      intro k
      cases k with
      | zero => simp
      | succ k => simp only [List.take_succ_cons, List.map_cons, List.sum_cons]; have := ih k; omega
  intro k
  have h1 := sum_take rs k
  have := key (rs.take k) (by omega)
  omega
theorem recsB_snoc {rs : List (List UInt8)} {k : Nat} {r : List UInt8} (h : rs[k]? = some r) : zeC (rs.take (k + 1)) = zeC (rs.take k) ++ ziU r := by
  rw [List.take_add_one, h]; simp [zeC]
theorem ziE (rs : List (List UInt8)) : rs.length ≤ (rs.map fun r => r.length + 10).sum := by
  induction rs with
  | nil => simp
  | cons r l ih => simp only [List.map_cons, List.sum_cons, List.length_cons]; omega
theorem rec_le {rs : List (List UInt8)} {r : List UInt8} (h : r ∈ rs) : r.length ≤ (rs.map fun r => r.length + 10).sum := by
  induction rs with
  | nil => cases h
  | cons x l ih =>
    simp only [List.map_cons, List.sum_cons]
    rcases List.mem_cons.1 h with rfl | h
    · omega
    · have := ih h; omega
theorem check_ok {name : List UInt8 → Bool} {o : TOp} (h : zai name o = 0) : 0 ≤ o.kind ∧ o.kind ≤ 4 ∧ 0 ≤ o.offset ∧ o.offset ≤ 9007199254740992 ∧ o = onlyF o := by
  unfold zai zhF at h
  grind
theorem take_eq_of {α : Type} {a b : List α} (hl : a.length = b.length) {k : Nat} (hk : k = a.length) (h : a.take k = b.take k) : a = b := by
  rw [hk, List.take_length, hl, List.take_length] at h
  exact h
theorem take_succ_eq {α : Type} {a b : List α} {k : Nat} {x y : α} (ha : a[k]? = some x) (hb : b[k]? = some y) (h : a.take k = b.take k) (e : x = y) : a.take (k + 1) = b.take (k + 1) := by
  rw [List.take_add_one, List.take_add_one, ha, hb, h, e]

theorem list_as {α β : Type} {f : α → β} : ∀ {l : List β}, (∀ e ∈ l, ∃ a, e = f a) → ∃ as_ : List α, l = as_.map f
  | [], _ => ⟨[], rfl⟩
  | e :: l, h => by
    obtain ⟨a, rfl⟩ := h e List.mem_cons_self
    obtain ⟨as_, rfl⟩ := list_as (l := l) (fun x hx => h x (List.mem_cons_of_mem _ hx))
    exact ⟨a :: as_, rfl⟩
theorem fits1 {t : Ty} {d : D} (h : zdJ [t] [d]) : zgS t d := h.2 0 t d rfl rfl
theorem one_of {t : Ty} {ds : List D} (h : zdJ [t] ds) : ∃ d, ds = [d] ∧ zgS t d := by
  match ds, h with
  | [d], h => exact ⟨d, rfl, fits1 h⟩
theorem zbc {t : Ty} {ts : List Ty} {ds : List D} (h : zdJ (t :: ts) ds) : ∃ d ds', ds = d :: ds' ∧ zgS t d ∧ zdJ ts ds' := by
  match ds, h with
  | d :: ds', h => exact ⟨d, ds', rfl, h.2 0 t d rfl rfl, by have := h.1; simpa using this, fun i t d h1 h2 => h.2 (i + 1) t d h1 h2⟩
theorem tfits_nil {ds : List D} (h : zdJ [] ds) : ds = [] := by
  have := h.1; simpa using this
theorem dec_int {k : IntKind} {d : D} (h : zgS (.int k) d) : ∃ n, d = .int k n ∧ (Lit.int k n).wf = true := by cases h with | int _ n h => exact ⟨n, rfl, h⟩
theorem zfq {d : D} (h : zgS (.int .i64) d) : ∃ n, d = .int .i64 n ∧ -9223372036854775808 ≤ n ∧ n ≤ 9223372036854775807 := by
  obtain ⟨n, hd, h2⟩ := dec_int h
  exact ⟨n, hd, by simpa [Lit.wf, IntKind.min, IntKind.max, IntKind.signed, IntKind.bits] using h2⟩
theorem dec_u8 {d : D} (h : zgS (.int .u8) d) : ∃ b : UInt8, d = .int .u8 b.toNat := by
  obtain ⟨n, hd, h2⟩ := dec_int h
  have h' : 0 ≤ n ∧ n ≤ 255 := by simpa [Lit.wf, IntKind.min, IntKind.max, IntKind.signed, IntKind.bits] using h2
  exact ⟨UInt8.ofNat n.toNat, by rw [hd, zkl (by omega)]; congr 1; omega⟩
theorem dec_str {d : D} (h : zgS .str d) : ∃ s, d = .str s := by cases h with | str s _ => exact ⟨s, rfl⟩
theorem dec_slice {α : Type} {ts : List Ty} {d : D} {f : α → List D} (h : zgS (.slice ts) d) (hf : ∀ e, zdJ ts e → ∃ a, e = f a) : ∃ as_ : List α, d = .slice (as_.map f) := by
  cases h with
  | slice _ es h1 h2 h3 =>
    obtain ⟨as_, rfl⟩ := list_as (f := f) (fun e he => hf e ⟨h2 e he, h3 e he⟩)
    exact ⟨as_, rfl⟩
theorem dec_bytes {d : D} (h : zgS (.slice [.int .u8]) d) : ∃ bs, d = .slice (bcs bs) := dec_slice h fun e he => by
  obtain ⟨d, rfl, h⟩ := one_of he
  obtain ⟨b, rfl⟩ := dec_u8 h
  exact ⟨b, rfl⟩
theorem dec_recs {d : D} (h : zgS (.slice [.slice [.int .u8]]) d) : ∃ rs, d = .slice (zbK rs) := dec_slice h fun e he => by
  obtain ⟨d, rfl, h⟩ := one_of he
  obtain ⟨b, rfl⟩ := dec_bytes h
  exact ⟨b, rfl⟩
def i64r (n : Int) : Prop := -9223372036854775808 ≤ n ∧ n ≤ 9223372036854775807
def opR (o : TOp) : Prop := i64r o.kind ∧ i64r o.offset

structure zeu where
  key : Int
  dig : Int
deriving DecidableEq
structure zh where
  client : Int
  time : Int
  op : TOp
  key : Int
  dig : Int
deriving DecidableEq
structure TPrep where
  view : Int
  seq : Int
  dig : Int
  fkey : Int
  fdig : Int
  signs : List zeu
  batch : List zh
deriving DecidableEq
structure TCert where
  seq : Int
  dig : Int
  signs : List zeu
deriving DecidableEq
structure TChange where
  view : Int
  src : Int
  cert : TCert
  above : List TPrep
  key : Int
  dig : Int
deriving DecidableEq
structure TEntry where
  view : Int
  seq : Int
  batch : List zh
  key : Int
  dig : Int
deriving DecidableEq

def signD (s : zeu) : List D := [.int .i64 s.key, .int .i64 s.dig]
abbrev signsE (l : List zeu) : List (List D) := l.map signD
def zeb (x : zh) : List D := [.int .i64 x.client, .int .i64 x.time, .int .i64 x.op.kind, .str x.op.topic, .str x.op.group, .int .i64 x.op.offset, .slice (zbK x.op.recs), .int .i64 x.key, .int .i64 x.dig]
abbrev zkG (b : List zh) : List (List D) := b.map zeb
theorem one_len {α : Type} {f : α → List D} {n : Nat} (hf : ∀ a, (f a).length = n) (l : List α) : ∀ e ∈ l.map f, e.length = n := by
  intro e he
  obtain ⟨a, _, rfl⟩ := List.mem_map.1 he
  exact hf a
theorem batch_nine (l : List zh) : ∀ e ∈ zkG l, e.length = 9 := one_len (f := zeb) (fun _ => rfl) l
theorem zef {α : Type} {f : α → List D} {l : List α} {k : Nat} {x : α} (h : l[k]? = some x) : (l.map f)[k]? = some (f x) := by simp [h]
def tySigned : List Ty := [.int .i64, .int .i64, .int .i64, .str, .str, .int .i64, .slice [.slice [.int .u8]], .int .i64, .int .i64]
def signedR (x : zh) : Prop := i64r x.client ∧ i64r x.time ∧ opR x.op ∧ i64r x.key ∧ i64r x.dig
theorem dec_sliceR {α : Type} {ts : List Ty} {d : D} {f : α → List D} {R : α → Prop} (h : zgS (.slice ts) d) (hf : ∀ e, zdJ ts e → ∃ a, e = f a ∧ R a) : ∃ as_ : List α, d = .slice (as_.map f) ∧ ∀ a ∈ as_, R a := by
  cases h with
  | slice _ es h1 h2 h3 =>
    have : ∀ l : List (List D), (∀ e ∈ l, zdJ ts e) → ∃ as_ : List α, l = as_.map f ∧ ∀ a ∈ as_, R a := by
      intro l
      induction l with
      | nil => intro _; exact ⟨[], rfl, by simp⟩
      | cons e l ih =>
        intro hl
        obtain ⟨a, rfl, ha⟩ := hf e (hl e (.head _))
        obtain ⟨as_, rfl, has⟩ := ih fun e he => hl e (.tail _ he)
        exact ⟨a :: as_, rfl, by simpa using ⟨ha, has⟩⟩
    obtain ⟨as_, rfl, h4⟩ := this es (fun e he => ⟨h2 e he, h3 e he⟩)
    exact ⟨as_, rfl, h4⟩
theorem dec_signed {ds : List D} (h : zdJ tySigned ds) : ∃ s : zh, ds = zeb s ∧ signedR s := by
  obtain ⟨d1, ds, rfl, h1, h⟩ := zbc h
  obtain ⟨d2, ds, rfl, h2, h⟩ := zbc h
  obtain ⟨d3, ds, rfl, h3, h⟩ := zbc h
  obtain ⟨d4, ds, rfl, h4, h⟩ := zbc h
  obtain ⟨d5, ds, rfl, h5, h⟩ := zbc h
  obtain ⟨d6, ds, rfl, h6, h⟩ := zbc h
  obtain ⟨d7, ds, rfl, h7, h⟩ := zbc h
  obtain ⟨d8, ds, rfl, h8, h⟩ := zbc h
  obtain ⟨d9, ds, rfl, h9, h⟩ := zbc h
  obtain rfl := tfits_nil h
  obtain ⟨a1, rfl, k1⟩ := zfq h1
  obtain ⟨a2, rfl, k2⟩ := zfq h2
  obtain ⟨a3, rfl, k3⟩ := zfq h3
  obtain ⟨a4, rfl⟩ := dec_str h4
  obtain ⟨a5, rfl⟩ := dec_str h5
  obtain ⟨a6, rfl, k6⟩ := zfq h6
  obtain ⟨a7, rfl⟩ := dec_recs h7
  obtain ⟨a8, rfl, k8⟩ := zfq h8
  obtain ⟨a9, rfl, k9⟩ := zfq h9
  exact ⟨⟨a1, a2, ⟨a3, a4, a5, a6, a7⟩, a8, a9⟩, rfl, k1, k2, ⟨k3, k6⟩, k8, k9⟩
end Go.AW
