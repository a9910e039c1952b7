/- How a number is put: seven bits a byte. No program in sight. -/
import Derived.IntWalk
import Derived.Test.YtcappjcojggehaaGreatAwEnd
import Derived.Test.YtcappjcojggehaaGreatAwRun
set_option linter.all false
namespace Go.AW

def numB (n : Nat) : List UInt8 := if n < 128 then [UInt8.ofNat n] else UInt8.ofNat (n % 128 + 128) :: numB (n / 128)
termination_by n
decreasing_by omega

theorem zgP {n : Nat} (h : n < 128) : numB n = [UInt8.ofNat n] := by rw [numB, if_pos h]
theorem znU {n : Nat} (h : ¬ n < 128) : numB n = UInt8.ofNat (n % 128 + 128) :: numB (n / 128) := by rw [numB, if_neg h]
theorem numB_len : ∀ (k n : Nat), n < 128 ^ (k + 1) → 1 ≤ (numB n).length ∧ (numB n).length ≤ k + 1
  | 0, n, h => by rw [zgP (by simpa using h)]; simp
  | k + 1, n, h => by
    by_cases hs : n < 128
    · rw [zgP hs]; simp
    · rw [znU hs]
      have := numB_len k (n / 128) (by rw [Nat.div_lt_iff_lt_mul (by omega)]; rw [Nat.pow_succ] at h; exact h)
      simp; omega
theorem zS {n : Nat} (h : n < 18446744073709551616) : 1 ≤ (numB n).length ∧ (numB n).length ≤ 10 := numB_len 9 n (by omega)

theorem or128 : ∀ x : Fin 256, (BitVec.ofInt 8 (x.val : Int) ||| BitVec.ofInt 8 128).toNat = x.val % 128 + 128 := by decide +kernel
theorem wrap8 (n : Nat) : IntKind.u8.wrap (n : Int) = ((n % 256 : Nat) : Int) := by
  simp [IntKind.wrap, IntKind.signed, IntKind.bits]
theorem zkW {n : Nat} (h : n < 256) : IntKind.u8.wrap (n : Int) = (n : Int) := by rw [wrap8, Nat.mod_eq_of_lt h]
theorem zbf {n : Nat} (h : n < 18446744073709551616) : IntKind.u64.wrap (n : Int) = (n : Int) := by
  simp [IntKind.wrap, IntKind.signed, IntKind.bits]
  omega
theorem zad {n : Int} (h1 : -9223372036854775808 ≤ n) (h2 : n ≤ 9223372036854775807) : IntKind.i64.wrap n = n := IntWalk.i64_in n ⟨h1, h2⟩
theorem zgX {n : Nat} (h : n < 256) : ((UInt8.ofNat n).toNat : Int) = (n : Int) := by
  simp; omega
end Go.AW

/- Operations: what the document says of them. No program in sight. -/
namespace Go.AW

structure TOp where
  kind : Int
  topic : List UInt8
  group : List UInt8
  offset : Int
  recs : List (List UInt8)
deriving DecidableEq

def recsE (rs : List (List UInt8)) : List (List D) := rs.map fun r => [D.slice (bcs r)]
def opA (o : TOp) : AV := .agg [.d (.int .i64 o.kind), .d (.str o.topic), .d (.str o.group), .d (.int .i64 o.offset), .d (.slice (recsE o.recs))]
def noOp : TOp := ⟨0, [], [], 0, []⟩

theorem zu (rs : List (List UInt8)) : (recsE rs).length = rs.length := by simp [recsE]
theorem zdc {rs : List (List UInt8)} {k : Nat} {r : List UInt8} (h : rs[k]? = some r) : (recsE rs)[k]? = some [D.slice (bcs r)] := by simp [recsE, h]

/-- the operation with the fields that its kind has alone -/
def onlyF (o : TOp) : TOp :=
  if o.kind = 1 then { noOp with kind := o.kind, topic := o.topic }
  else if o.kind = 2 then { noOp with kind := o.kind, topic := o.topic, recs := o.recs }
  else if o.kind = 3 then { noOp with kind := o.kind, topic := o.topic, group := o.group, offset := o.offset }
  else if o.kind = 4 then { noOp with kind := o.kind, topic := o.topic, offset := o.offset }
  else { noOp with kind := o.kind }
def zcZ (o : TOp) : Bool := decide (0 ≤ o.kind ∧ o.kind ≤ 4)
/-- what is wrong with an operation, told which texts are names -/
def zaT (name : List UInt8 → Bool) (o : TOp) : Int :=
  if zcZ o = false ∨ o ≠ onlyF o then 60
  else if o.kind ≠ 0 ∧ name o.topic = false then 61
  else if o.kind = 3 ∧ name o.group = false then 61
  else if o.kind = 2 ∧ (o.recs.length < 1 ∨ o.recs.length > 4 ∨ o.recs.any (fun r => decide (r.length > 64)) = true) then 62
  else if o.offset < 0 ∨ o.offset > 9007199254740992 then 60
  else 0

/-- a byte string behind its length -/
def putB (x : List UInt8) : List UInt8 := numB x.length ++ x
def recsB (rs : List (List UInt8)) : List UInt8 := (rs.map putB).flatten
/-- an operation's bytes, of one that may be -/
def opB (o : TOp) : List UInt8 :=
  numB o.kind.toNat ++ ((if o.kind ≠ 0 then putB o.topic else []) ++
    (if o.kind = 2 then numB o.recs.length ++ recsB o.recs else if o.kind = 3 then putB o.group ++ numB o.offset.toNat else if o.kind = 4 then numB o.offset.toNat else []))
theorem opB_0 {o : TOp} (h : o.kind = 0) : opB o = numB o.kind.toNat := by simp [opB, h]
theorem opB_1 {o : TOp} (h : o.kind = 1) : opB o = numB o.kind.toNat ++ (numB o.topic.length ++ o.topic) := by simp [opB, h, putB]
theorem opB_2 {o : TOp} (h : o.kind = 2) : opB o = numB o.kind.toNat ++ (numB o.topic.length ++ (o.topic ++ (numB o.recs.length ++ recsB o.recs))) := by simp [opB, h, putB]
theorem opB_3 {o : TOp} (h : o.kind = 3) : opB o = numB o.kind.toNat ++ (numB o.topic.length ++ (o.topic ++ (numB o.group.length ++ (o.group ++ numB o.offset.toNat)))) := by simp [opB, h, putB]
theorem opB_4 {o : TOp} (h : o.kind = 4) : opB o = numB o.kind.toNat ++ (numB o.topic.length ++ (o.topic ++ numB o.offset.toNat)) := by simp [opB, h, putB]
/-- how much room an operation takes at most -/
def opSz (o : TOp) : Nat := o.topic.length + o.group.length + (o.recs.map fun r => r.length + 10).sum
theorem zej {x : List UInt8} (h : x.length < 18446744073709551616) : (putB x).length ≤ x.length + 10 := by
  have := zS h
  simp only [putB, List.length_append]; omega
theorem zeu (rs : List (List UInt8)) (h : (rs.map fun r => r.length + 10).sum ≤ 1073741824) : ∀ k, (recsB (rs.take k)).length ≤ (rs.map fun r => r.length + 10).sum := by
  have key : ∀ l : List (List UInt8), (l.map fun r => r.length + 10).sum ≤ 1073741824 → (recsB l).length ≤ (l.map fun r => r.length + 10).sum := by
    intro l
    induction l with
    | nil => simp [recsB]
    | cons r l ih =>
      intro h
      simp only [List.map_cons, List.sum_cons] at h ⊢
      have h1 := ih (by omega)
      have h2 := zej (x := r) (by omega)
      simp only [recsB, List.map_cons, List.flatten_cons, List.length_append] at h1 ⊢
      omega
  have znC : ∀ (l : List (List UInt8)) k, ((l.take k).map fun r => r.length + 10).sum ≤ (l.map fun r => r.length + 10).sum := by
    intro l
    induction l with
    | nil => simp
    | cons r l ih =>
      intro k
      cases k with
      | zero => simp
      | succ k => simp only [List.take_succ_cons, List.map_cons, List.sum_cons]; have := ih k; omega
  intro k
  have h1 := znC rs k
  have := key (rs.take k) (by omega)
  omega
theorem zmP {rs : List (List UInt8)} {k : Nat} {r : List UInt8} (h : rs[k]? = some r) : recsB (rs.take (k + 1)) = recsB (rs.take k) ++ putB r := by
  rw [List.take_add_one, h]; simp [recsB]
theorem zfd (rs : List (List UInt8)) : rs.length ≤ (rs.map fun r => r.length + 10).sum := by
  induction rs with
  | nil => simp
  | cons r l ih => simp only [List.map_cons, List.sum_cons, List.length_cons]; omega
theorem rec_le {rs : List (List UInt8)} {r : List UInt8} (h : r ∈ rs) : r.length ≤ (rs.map fun r => r.length + 10).sum := by
  induction rs with
  | nil => cases h
  | cons x l ih =>
    simp only [List.map_cons, List.sum_cons]
    rcases List.mem_cons.1 h with rfl | h
    · omega
    · have := ih h; omega
theorem zol {name : List UInt8 → Bool} {o : TOp} (h : zaT name o = 0) : 0 ≤ o.kind ∧ o.kind ≤ 4 ∧ 0 ≤ o.offset ∧ o.offset ≤ 9007199254740992 ∧ o = onlyF o := by
  unfold zaT zcZ at h
  grind
theorem take_eq_of {α : Type} {a b : List α} (hl : a.length = b.length) {k : Nat} (hk : k = a.length) (h : a.take k = b.take k) : a = b := by
  rw [hk, List.take_length, hl, List.take_length] at h
  exact h
theorem take_succ_eq {α : Type} {a b : List α} {k : Nat} {x y : α} (ha : a[k]? = some x) (hb : b[k]? = some y) (h : a.take k = b.take k) (e : x = y) : a.take (k + 1) = b.take (k + 1) := by
  rw [List.take_add_one, List.take_add_one, ha, hb, h, e]
end Go.AW

/- Arguments of known types as data of the document. -/
set_option linter.unusedSimpArgs false
namespace Go.AW

theorem list_as {α β : Type} {f : α → β} : ∀ {l : List β}, (∀ e ∈ l, ∃ a, e = f a) → ∃ as_ : List α, l = as_.map f
  | [], _ => ⟨[], rfl⟩
  | e :: l, h => by
    obtain ⟨a, rfl⟩ := h e List.mem_cons_self
    obtain ⟨as_, rfl⟩ := list_as (l := l) (fun x hx => h x (List.mem_cons_of_mem _ hx))
    exact ⟨a :: as_, rfl⟩
theorem fits1 {t : Ty} {d : D} (h : zbV [t] [d]) : TFits t d := h.2 0 t d rfl rfl
theorem one_of {t : Ty} {ds : List D} (h : zbV [t] ds) : ∃ d, ds = [d] ∧ TFits t d := by
  match ds, h with
  | [d], h => exact ⟨d, rfl, fits1 h⟩
theorem zaj {t : Ty} {ts : List Ty} {ds : List D} (h : zbV (t :: ts) ds) : ∃ d ds', ds = d :: ds' ∧ TFits t d ∧ zbV ts ds' := by
  match ds, h with
  | d :: ds', h => exact ⟨d, ds', rfl, h.2 0 t d rfl rfl, by have := h.1; simpa using this, fun i t d h1 h2 => h.2 (i + 1) t d h1 h2⟩
theorem zih {ds : List D} (h : zbV [] ds) : ds = [] := by
  have := h.1; simpa using this
theorem dec_int {k : IntKind} {d : D} (h : TFits (.int k) d) : ∃ n, d = .int k n ∧ (Lit.int k n).wf = true := by cases h with | int _ n h => exact ⟨n, rfl, h⟩
theorem zcy {d : D} (h : TFits (.int .i64) d) : ∃ n, d = .int .i64 n ∧ -9223372036854775808 ≤ n ∧ n ≤ 9223372036854775807 := by
  obtain ⟨n, hd, h2⟩ := dec_int h
  exact ⟨n, hd, by simpa [Lit.wf, IntKind.min, IntKind.max, IntKind.signed, IntKind.bits] using h2⟩
theorem dec_u8 {d : D} (h : TFits (.int .u8) d) : ∃ b : UInt8, d = .int .u8 b.toNat := by
  obtain ⟨n, hd, h2⟩ := dec_int h
  have h' : 0 ≤ n ∧ n ≤ 255 := by simpa [Lit.wf, IntKind.min, IntKind.max, IntKind.signed, IntKind.bits] using h2
  exact ⟨UInt8.ofNat n.toNat, by rw [hd, zgX (by omega)]; congr 1; omega⟩
theorem dec_str {d : D} (h : TFits .str d) : ∃ s, d = .str s := by cases h with | str s _ => exact ⟨s, rfl⟩
theorem zlQ {α : Type} {ts : List Ty} {d : D} {f : α → List D} (h : TFits (.slice ts) d) (hf : ∀ e, zbV ts e → ∃ a, e = f a) : ∃ as_ : List α, d = .slice (as_.map f) := by
  cases h with
  | slice _ es h1 h2 h3 =>
    obtain ⟨as_, rfl⟩ := list_as (f := f) (fun e he => hf e ⟨h2 e he, h3 e he⟩)
    exact ⟨as_, rfl⟩
theorem dec_bytes {d : D} (h : TFits (.slice [.int .u8]) d) : ∃ bs, d = .slice (bcs bs) := zlQ h fun e he => by
  obtain ⟨d, rfl, h⟩ := one_of he
  obtain ⟨b, rfl⟩ := dec_u8 h
  exact ⟨b, rfl⟩
theorem dec_recs {d : D} (h : TFits (.slice [.slice [.int .u8]]) d) : ∃ rs, d = .slice (recsE rs) := zlQ h fun e he => by
  obtain ⟨d, rfl, h⟩ := one_of he
  obtain ⟨b, rfl⟩ := dec_bytes h
  exact ⟨b, rfl⟩
theorem bulk_bcs (bs : List UInt8) : zcA (bcs bs) = bs.length := by
  induction bs with
  | nil => rfl
  | cons b bs ih => simp only [bcs, List.map_cons, zay, zcA, bulkL, bulkD, List.length_cons] at ih ⊢; omega
theorem bulk_recs (rs : List (List UInt8)) : zcA (recsE rs) = (rs.map fun r => r.length + 1).sum := by
  induction rs with
  | nil => rfl
  | cons r rs ih => simp only [recsE, List.map_cons, zcA, bulkL, bulkD, List.sum_cons, bulk_bcs] at ih ⊢; omega
def i64r (n : Int) : Prop := -9223372036854775808 ≤ n ∧ n ≤ 9223372036854775807
/-- an operation whose numbers are of their kind -/
def opR (o : TOp) : Prop := i64r o.kind ∧ i64r o.offset
def opD (o : TOp) : List D := [.int .i64 o.kind, .str o.topic, .str o.group, .int .i64 o.offset, .slice (recsE o.recs)]
theorem opSz_bulk (o : TOp) : opSz o ≤ 10 * bulkL (opD o) := by
  have : (o.recs.map fun r => r.length + 10).sum ≤ 10 * (o.recs.map fun r => r.length + 1).sum := by
    induction o.recs with
    | nil => simp
    | cons r rs ih => simp only [List.map_cons, List.sum_cons]; omega
  simp only [opSz, opD, bulkL, bulkD, bulk_recs]
  omega
end Go.AW

/- Requests, batches, certificates, view-changes: what the document holds, as data. No program in sight. -/
set_option linter.unusedSimpArgs false
namespace Go.AW

structure TSign where
  key : Int
  dig : Int
deriving DecidableEq
structure zk where
  client : Int
  time : Int
  op : TOp
  key : Int
  dig : Int
deriving DecidableEq
structure TPrep where
  view : Int
  seq : Int
  dig : Int
  fkey : Int
  fdig : Int
  signs : List TSign
  batch : List zk
deriving DecidableEq
structure TCert where
  seq : Int
  dig : Int
  signs : List TSign
deriving DecidableEq
structure TChange where
  view : Int
  src : Int
  cert : TCert
  above : List TPrep
  key : Int
  dig : Int
deriving DecidableEq
structure TEntry where
  view : Int
  seq : Int
  batch : List zk
  key : Int
  dig : Int
deriving DecidableEq

def signD (s : TSign) : List D := [.int .i64 s.key, .int .i64 s.dig]
abbrev zaw (l : List TSign) : List (List D) := l.map signD
def zaJ (x : zk) : List D := [.int .i64 x.client, .int .i64 x.time, .int .i64 x.op.kind, .str x.op.topic, .str x.op.group, .int .i64 x.op.offset, .slice (recsE x.op.recs), .int .i64 x.key, .int .i64 x.dig]
abbrev zaO (b : List zk) : List (List D) := b.map zaJ
def prepD (p : TPrep) : List D := [.int .i64 p.view, .int .i64 p.seq, .int .i64 p.dig, .int .i64 p.fkey, .int .i64 p.fdig, .slice (zaw p.signs), .slice (zaO p.batch)]
abbrev zmR (l : List TPrep) : List (List D) := l.map prepD
theorem znT {α : Type} {f : α → List D} {n : Nat} (hf : ∀ a, (f a).length = n) (l : List α) : ∀ e ∈ l.map f, e.length = n := by
  intro e he
  obtain ⟨a, _, rfl⟩ := List.mem_map.1 he
  exact hf a
theorem batch_nine (l : List zk) : ∀ e ∈ zaO l, e.length = 9 := znT (f := zaJ) (fun _ => rfl) l
theorem zas {α : Type} {f : α → List D} {l : List α} {k : Nat} {x : α} (h : l[k]? = some x) : (l.map f)[k]? = some (f x) := by simp [h]
theorem map_snoc {α : Type} {f : α → List D} {l : List α} {k : Nat} {x : α} (h : l[k]? = some x) : (l.take k).map f ++ [f x] = (l.take (k + 1)).map f := by
  rw [List.take_add_one, h]; simp

/-- what the types say of the numbers -/
def signR (s : TSign) : Prop := i64r s.key ∧ i64r s.dig
def signedR (x : zk) : Prop := i64r x.client ∧ i64r x.time ∧ opR x.op ∧ i64r x.key ∧ i64r x.dig
theorem zjL {α : Type} {ts : List Ty} {d : D} {f : α → List D} {R : α → Prop} (h : TFits (.slice ts) d) (hf : ∀ e, zbV ts e → ∃ a, e = f a ∧ R a) : ∃ as_ : List α, d = .slice (as_.map f) ∧ ∀ a ∈ as_, R a := by
  cases h with
  | slice _ es h1 h2 h3 =>
    have : ∀ l : List (List D), (∀ e ∈ l, zbV ts e) → ∃ as_ : List α, l = as_.map f ∧ ∀ a ∈ as_, R a := by
      intro l
      induction l with
      | nil => intro _; exact ⟨[], rfl, by simp⟩
      | cons e l ih =>
        intro hl
        obtain ⟨a, rfl, ha⟩ := hf e (hl e (.head _))
        obtain ⟨as_, rfl, has⟩ := ih fun e he => hl e (.tail _ he)
        exact ⟨a :: as_, rfl, by simpa using ⟨ha, has⟩⟩
    obtain ⟨as_, rfl, h4⟩ := this es (fun e he => ⟨h2 e he, h3 e he⟩)
    exact ⟨as_, rfl, h4⟩
end Go.AW
