/- How a number is put: seven bits a byte. No program in sight. -/
import Derived.IntWalk
import Derived.Test.YtcappjcojggehaaGreatAwEnd
import Derived.Test.YtcappjcojggehaaGreatAwRun
set_option linter.all false
namespace Go.AW

def zct (n : Nat) : List UInt8 := if n < 128 then [UInt8.ofNat n] else UInt8.ofNat (n % 128 + 128) :: zct (n / 128)
termination_by n
decreasing_by omega

theorem zfE {n : Nat} (h : n < 128) : zct n = [UInt8.ofNat n] := by rw [zct, if_pos h]
theorem zkZ {n : Nat} (h : ¬ n < 128) : zct n = UInt8.ofNat (n % 128 + 128) :: zct (n / 128) := by rw [zct, if_neg h]
theorem numB_len : ∀ (k n : Nat), n < 128 ^ (k + 1) → 1 ≤ (zct n).length ∧ (zct n).length ≤ k + 1
  | 0, n, h => by rw [zfE (by simpa using h)]; simp
  | k + 1, n, h => by
    by_cases hs : n < 128
    · rw [zfE hs]; simp
    · rw [zkZ hs]
      have := numB_len k (n / 128) (by rw [Nat.div_lt_iff_lt_mul (by omega)]; rw [Nat.pow_succ] at h; exact h)
      simp; omega
theorem zX {n : Nat} (h : n < 18446744073709551616) : 1 ≤ (zct n).length ∧ (zct n).length ≤ 10 := numB_len 9 n (by omega)

theorem or128 : ∀ x : Fin 256, (BitVec.ofInt 8 (x.val : Int) ||| BitVec.ofInt 8 128).toNat = x.val % 128 + 128 := by decide +kernel
theorem wrap8 (n : Nat) : IntKind.u8.wrap (n : Int) = ((n % 256 : Nat) : Int) := by
  simp [IntKind.wrap, IntKind.signed, IntKind.bits]
theorem ziL {n : Nat} (h : n < 256) : IntKind.u8.wrap (n : Int) = (n : Int) := by rw [wrap8, Nat.mod_eq_of_lt h]
theorem zbV {n : Nat} (h : n < 18446744073709551616) : IntKind.u64.wrap (n : Int) = (n : Int) := by
  simp [IntKind.wrap, IntKind.signed, IntKind.bits]
  omega
theorem zaj {n : Int} (h1 : -9223372036854775808 ≤ n) (h2 : n ≤ 9223372036854775807) : IntKind.i64.wrap n = n := IntWalk.i64_in n ⟨h1, h2⟩
theorem zhZ {n : Nat} (h : n < 256) : ((UInt8.ofNat n).toNat : Int) = (n : Int) := by
  simp; omega
end Go.AW

/- Operations: what the document says of them. No program in sight. -/
namespace Go.AW

structure TOp where
  kind : Int
  topic : List UInt8
  group : List UInt8
  offset : Int
  recs : List (List UInt8)
deriving DecidableEq

def zdy (rs : List (List UInt8)) : List (List D) := rs.map fun r => [D.slice (bcs r)]
def opA (o : TOp) : AV := .agg [.d (.int .i64 o.kind), .d (.str o.topic), .d (.str o.group), .d (.int .i64 o.offset), .d (.slice (zdy o.recs))]
def noOp : TOp := ⟨0, [], [], 0, []⟩

theorem zm (rs : List (List UInt8)) : (zdy rs).length = rs.length := by simp [zdy]
theorem zdP {rs : List (List UInt8)} {k : Nat} {r : List UInt8} (h : rs[k]? = some r) : (zdy rs)[k]? = some [D.slice (bcs r)] := by simp [zdy, h]

def zol (o : TOp) : TOp :=
  if o.kind = 1 then { noOp with kind := o.kind, topic := o.topic }
  else if o.kind = 2 then { noOp with kind := o.kind, topic := o.topic, recs := o.recs }
  else if o.kind = 3 then { noOp with kind := o.kind, topic := o.topic, group := o.group, offset := o.offset }
  else if o.kind = 4 then { noOp with kind := o.kind, topic := o.topic, offset := o.offset }
  else { noOp with kind := o.kind }
def zdM (o : TOp) : Bool := decide (0 ≤ o.kind ∧ o.kind ≤ 4)
def zbA (name : List UInt8 → Bool) (o : TOp) : Int :=
  if zdM o = false ∨ o ≠ zol o then 60
  else if o.kind ≠ 0 ∧ name o.topic = false then 61
  else if o.kind = 3 ∧ name o.group = false then 61
  else if o.kind = 2 ∧ (o.recs.length < 1 ∨ o.recs.length > 4 ∨ o.recs.any (fun r => decide (r.length > 64)) = true) then 62
  else if o.offset < 0 ∨ o.offset > 9007199254740992 then 60
  else 0

def zls (x : List UInt8) : List UInt8 := zct x.length ++ x
def zjH (rs : List (List UInt8)) : List UInt8 := (rs.map zls).flatten
def opB (o : TOp) : List UInt8 :=
  zct o.kind.toNat ++ ((if o.kind ≠ 0 then zls o.topic else []) ++
    (if o.kind = 2 then zct o.recs.length ++ zjH o.recs else if o.kind = 3 then zls o.group ++ zct o.offset.toNat else if o.kind = 4 then zct o.offset.toNat else []))
theorem opB_0 {o : TOp} (h : o.kind = 0) : opB o = zct o.kind.toNat := by simp [opB, h]
theorem opB_1 {o : TOp} (h : o.kind = 1) : opB o = zct o.kind.toNat ++ (zct o.topic.length ++ o.topic) := by simp [opB, h, zls]
theorem opB_2 {o : TOp} (h : o.kind = 2) : opB o = zct o.kind.toNat ++ (zct o.topic.length ++ (o.topic ++ (zct o.recs.length ++ zjH o.recs))) := by simp [opB, h, zls]
theorem opB_3 {o : TOp} (h : o.kind = 3) : opB o = zct o.kind.toNat ++ (zct o.topic.length ++ (o.topic ++ (zct o.group.length ++ (o.group ++ zct o.offset.toNat)))) := by simp [opB, h, zls]
theorem opB_4 {o : TOp} (h : o.kind = 4) : opB o = zct o.kind.toNat ++ (zct o.topic.length ++ (o.topic ++ zct o.offset.toNat)) := by simp [opB, h, zls]
def zfz (o : TOp) : Nat := o.topic.length + o.group.length + (o.recs.map fun r => r.length + 10).sum
theorem zfi {x : List UInt8} (h : x.length < 18446744073709551616) : (zls x).length ≤ x.length + 10 := by
  have := zX h
  simp only [zls, List.length_append]; omega
theorem zfu (rs : List (List UInt8)) (h : (rs.map fun r => r.length + 10).sum ≤ 1073741824) : ∀ k, (zjH (rs.take k)).length ≤ (rs.map fun r => r.length + 10).sum := by
  have key : ∀ l : List (List UInt8), (l.map fun r => r.length + 10).sum ≤ 1073741824 → (zjH l).length ≤ (l.map fun r => r.length + 10).sum := by
    intro l
    induction l with
    | nil => simp [zjH]
    | cons r l ih =>
      intro h
      simp only [List.map_cons, List.sum_cons] at h ⊢
      have h1 := ih (by omega)
      have h2 := zfi (x := r) (by omega)
      simp only [zjH, List.map_cons, List.flatten_cons, List.length_append] at h1 ⊢
      omega
  have zoa : ∀ (l : List (List UInt8)) k, ((l.take k).map fun r => r.length + 10).sum ≤ (l.map fun r => r.length + 10).sum := by
    intro l
    induction l with
    | nil => simp
    | cons r l ih =>
      intro k
      cases k with
      | zero => simp
      | succ k => simp only [List.take_succ_cons, List.map_cons, List.sum_cons]; have := ih k; omega
  intro k
  have h1 := zoa rs k
  have := key (rs.take k) (by omega)
  omega
theorem zmS {rs : List (List UInt8)} {k : Nat} {r : List UInt8} (h : rs[k]? = some r) : zjH (rs.take (k + 1)) = zjH (rs.take k) ++ zls r := by
  rw [List.take_add_one, h]; simp [zjH]
theorem zgk (rs : List (List UInt8)) : rs.length ≤ (rs.map fun r => r.length + 10).sum := by
  induction rs with
  | nil => simp
  | cons r l ih => simp only [List.map_cons, List.sum_cons, List.length_cons]; omega
theorem rec_le {rs : List (List UInt8)} {r : List UInt8} (h : r ∈ rs) : r.length ≤ (rs.map fun r => r.length + 10).sum := by
  induction rs with
  | nil => cases h
  | cons x l ih =>
    simp only [List.map_cons, List.sum_cons]
    rcases List.mem_cons.1 h with rfl | h
    · omega
    · have := ih h; omega
theorem zot {name : List UInt8 → Bool} {o : TOp} (h : zbA name o = 0) : 0 ≤ o.kind ∧ o.kind ≤ 4 ∧ 0 ≤ o.offset ∧ o.offset ≤ 9007199254740992 ∧ o = zol o := by
  unfold zbA zdM at h
  grind
theorem take_eq_of {α : Type} {a b : List α} (hl : a.length = b.length) {k : Nat} (hk : k = a.length) (h : a.take k = b.take k) : a = b := by
  rw [hk, List.take_length, hl, List.take_length] at h
  exact h
theorem take_succ_eq {α : Type} {a b : List α} {k : Nat} {x y : α} (ha : a[k]? = some x) (hb : b[k]? = some y) (h : a.take k = b.take k) (e : x = y) : a.take (k + 1) = b.take (k + 1) := by
  rw [List.take_add_one, List.take_add_one, ha, hb, h, e]
end Go.AW

/- Arguments of known types as data of the document. -/
set_option linter.unusedSimpArgs false
namespace Go.AW

theorem list_as {α β : Type} {f : α → β} : ∀ {l : List β}, (∀ e ∈ l, ∃ a, e = f a) → ∃ as_ : List α, l = as_.map f
  | [], _ => ⟨[], rfl⟩
  | e :: l, h => by
    obtain ⟨a, rfl⟩ := h e List.mem_cons_self
    obtain ⟨as_, rfl⟩ := list_as (l := l) (fun x hx => h x (List.mem_cons_of_mem _ hx))
    exact ⟨a :: as_, rfl⟩
theorem fits1 {t : Ty} {d : D} (h : zcY [t] [d]) : zfY t d := h.2 0 t d rfl rfl
theorem one_of {t : Ty} {ds : List D} (h : zcY [t] ds) : ∃ d, ds = [d] ∧ zfY t d := by
  match ds, h with
  | [d], h => exact ⟨d, rfl, fits1 h⟩
theorem zax {t : Ty} {ts : List Ty} {ds : List D} (h : zcY (t :: ts) ds) : ∃ d ds', ds = d :: ds' ∧ zfY t d ∧ zcY ts ds' := by
  match ds, h with
  | d :: ds', h => exact ⟨d, ds', rfl, h.2 0 t d rfl rfl, by have := h.1; simpa using this, fun i t d h1 h2 => h.2 (i + 1) t d h1 h2⟩
theorem ziO {ds : List D} (h : zcY [] ds) : ds = [] := by
  have := h.1; simpa using this
theorem dec_int {k : IntKind} {d : D} (h : zfY (.int k) d) : ∃ n, d = .int k n ∧ (Lit.int k n).wf = true := by cases h with | int _ n h => exact ⟨n, rfl, h⟩
theorem zdt {d : D} (h : zfY (.int .i64) d) : ∃ n, d = .int .i64 n ∧ -9223372036854775808 ≤ n ∧ n ≤ 9223372036854775807 := by
  obtain ⟨n, hd, h2⟩ := dec_int h
  exact ⟨n, hd, by simpa [Lit.wf, IntKind.min, IntKind.max, IntKind.signed, IntKind.bits] using h2⟩
theorem dec_u8 {d : D} (h : zfY (.int .u8) d) : ∃ b : UInt8, d = .int .u8 b.toNat := by
  obtain ⟨n, hd, h2⟩ := dec_int h
  have h' : 0 ≤ n ∧ n ≤ 255 := by simpa [Lit.wf, IntKind.min, IntKind.max, IntKind.signed, IntKind.bits] using h2
  exact ⟨UInt8.ofNat n.toNat, by rw [hd, zhZ (by omega)]; congr 1; omega⟩
theorem dec_str {d : D} (h : zfY .str d) : ∃ s, d = .str s := by cases h with | str s _ => exact ⟨s, rfl⟩
theorem zmb {α : Type} {ts : List Ty} {d : D} {f : α → List D} (h : zfY (.slice ts) d) (hf : ∀ e, zcY ts e → ∃ a, e = f a) : ∃ as_ : List α, d = .slice (as_.map f) := by
  cases h with
  | slice _ es h1 h2 h3 =>
    obtain ⟨as_, rfl⟩ := list_as (f := f) (fun e he => hf e ⟨h2 e he, h3 e he⟩)
    exact ⟨as_, rfl⟩
theorem dec_bytes {d : D} (h : zfY (.slice [.int .u8]) d) : ∃ bs, d = .slice (bcs bs) := zmb h fun e he => by
  obtain ⟨d, rfl, h⟩ := one_of he
  obtain ⟨b, rfl⟩ := dec_u8 h
  exact ⟨b, rfl⟩
theorem dec_recs {d : D} (h : zfY (.slice [.slice [.int .u8]]) d) : ∃ rs, d = .slice (zdy rs) := zmb h fun e he => by
  obtain ⟨d, rfl, h⟩ := one_of he
  obtain ⟨b, rfl⟩ := dec_bytes h
  exact ⟨b, rfl⟩
theorem bulk_bcs (bs : List UInt8) : zdw (bcs bs) = bs.length := by
  induction bs with
  | nil => rfl
  | cons b bs ih => simp only [bcs, List.map_cons, zbb, zdw, zcQ, zfV, List.length_cons] at ih ⊢; omega
theorem bulk_recs (rs : List (List UInt8)) : zdw (zdy rs) = (rs.map fun r => r.length + 1).sum := by
  induction rs with
  | nil => rfl
  | cons r rs ih => simp only [zdy, List.map_cons, zdw, zcQ, zfV, List.sum_cons, bulk_bcs] at ih ⊢; omega
def zng (n : Int) : Prop := -9223372036854775808 ≤ n ∧ n ≤ 9223372036854775807
def opR (o : TOp) : Prop := zng o.kind ∧ zng o.offset
def opD (o : TOp) : List D := [.int .i64 o.kind, .str o.topic, .str o.group, .int .i64 o.offset, .slice (zdy o.recs)]
theorem opSz_bulk (o : TOp) : zfz o ≤ 10 * zcQ (opD o) := by
  have : (o.recs.map fun r => r.length + 10).sum ≤ 10 * (o.recs.map fun r => r.length + 1).sum := by
    induction o.recs with
    | nil => simp
    | cons r rs ih => simp only [List.map_cons, List.sum_cons]; omega
  simp only [zfz, opD, zcQ, zfV, bulk_recs]
  omega
end Go.AW

/- Requests, batches, certificates, view-changes: what the document holds, as data. No program in sight. -/
set_option linter.unusedSimpArgs false
namespace Go.AW

structure zR where
  key : Int
  dig : Int
deriving DecidableEq
structure zd where
  client : Int
  time : Int
  op : TOp
  key : Int
  dig : Int
deriving DecidableEq
structure zcs where
  view : Int
  seq : Int
  dig : Int
  fkey : Int
  fdig : Int
  signs : List zR
  batch : List zd
deriving DecidableEq
structure TCert where
  seq : Int
  dig : Int
  signs : List zR
deriving DecidableEq
structure TChange where
  view : Int
  src : Int
  cert : TCert
  above : List zcs
  key : Int
  dig : Int
deriving DecidableEq
structure TEntry where
  view : Int
  seq : Int
  batch : List zd
  key : Int
  dig : Int
deriving DecidableEq

def zia (s : zR) : List D := [.int .i64 s.key, .int .i64 s.dig]
abbrev zaY (l : List zR) : List (List D) := l.map zia
def zbr (x : zd) : List D := [.int .i64 x.client, .int .i64 x.time, .int .i64 x.op.kind, .str x.op.topic, .str x.op.group, .int .i64 x.op.offset, .slice (zdy x.op.recs), .int .i64 x.key, .int .i64 x.dig]
abbrev zbs (b : List zd) : List (List D) := b.map zbr
def prepD (p : zcs) : List D := [.int .i64 p.view, .int .i64 p.seq, .int .i64 p.dig, .int .i64 p.fkey, .int .i64 p.fdig, .slice (zaY p.signs), .slice (zbs p.batch)]
abbrev zlu (l : List zcs) : List (List D) := l.map prepD
theorem zjI {α : Type} {f : α → List D} {n : Nat} (hf : ∀ a, (f a).length = n) (l : List α) : ∀ e ∈ l.map f, e.length = n := by
  intro e he
  obtain ⟨a, _, rfl⟩ := List.mem_map.1 he
  exact hf a
theorem batch_nine (l : List zd) : ∀ e ∈ zbs l, e.length = 9 := zjI (f := zbr) (fun _ => rfl) l
theorem zaT {α : Type} {f : α → List D} {l : List α} {k : Nat} {x : α} (h : l[k]? = some x) : (l.map f)[k]? = some (f x) := by simp [h]
theorem map_snoc {α : Type} {f : α → List D} {l : List α} {k : Nat} {x : α} (h : l[k]? = some x) : (l.take k).map f ++ [f x] = (l.take (k + 1)).map f := by
  rw [List.take_add_one, h]; simp

def signR (s : zR) : Prop := zng s.key ∧ zng s.dig
def signedR (x : zd) : Prop := zng x.client ∧ zng x.time ∧ opR x.op ∧ zng x.key ∧ zng x.dig
theorem zke {α : Type} {ts : List Ty} {d : D} {f : α → List D} {R : α → Prop} (h : zfY (.slice ts) d) (hf : ∀ e, zcY ts e → ∃ a, e = f a ∧ R a) : ∃ as_ : List α, d = .slice (as_.map f) ∧ ∀ a ∈ as_, R a := by
  cases h with
  | slice _ es h1 h2 h3 =>
    have : ∀ l : List (List D), (∀ e ∈ l, zcY ts e) → ∃ as_ : List α, l = as_.map f ∧ ∀ a ∈ as_, R a := by
      intro l
      induction l with
      | nil => intro _; exact ⟨[], rfl, by simp⟩
      | cons e l ih =>
        intro hl
        obtain ⟨a, rfl, ha⟩ := hf e (hl e (.head _))
        obtain ⟨as_, rfl, has⟩ := ih fun e he => hl e (.tail _ he)
        exact ⟨a :: as_, rfl, by simpa using ⟨ha, has⟩⟩
    obtain ⟨as_, rfl, h4⟩ := this es (fun e he => ⟨h2 e he, h3 e he⟩)
    exact ⟨as_, rfl, h4⟩
end Go.AW
