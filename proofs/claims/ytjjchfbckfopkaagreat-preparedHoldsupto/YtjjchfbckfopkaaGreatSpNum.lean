/- How a number is put: seven bits a byte. No program in sight. -/
import Derived.IntWalk
import Derived.Test.YtjjchfbckfopkaaGreatAwEnd
import Derived.Test.YtjjchfbckfopkaaGreatAwFun
set_option linter.all false
namespace Go.AW

def zcG (n : Nat) : List UInt8 := if n < 128 then [UInt8.ofNat n] else UInt8.ofNat (n % 128 + 128) :: zcG (n / 128)
termination_by n
decreasing_by omega

theorem zin {n : Nat} (h : n < 128) : zcG n = [UInt8.ofNat n] := by rw [zcG, if_pos h]
theorem zpB {n : Nat} (h : ¬ n < 128) : zcG n = UInt8.ofNat (n % 128 + 128) :: zcG (n / 128) := by rw [zcG, if_neg h]
theorem numB_len : ∀ (k n : Nat), n < 128 ^ (k + 1) → 1 ≤ (zcG n).length ∧ (zcG n).length ≤ k + 1
  | 0, n, h => by rw [zin (by simpa using h)]; simp
  | k + 1, n, h => by
    by_cases hs : n < 128
    · rw [zin hs]; simp
    · rw [zpB hs]
      have := numB_len k (n / 128) (by rw [Nat.div_lt_iff_lt_mul (by omega)]; rw [Nat.pow_succ] at h; exact h)
      simp; omega
theorem zO {n : Nat} (h : n < 18446744073709551616) : 1 ≤ (zcG n).length ∧ (zcG n).length ≤ 10 := numB_len 9 n (by omega)

theorem or128 : ∀ x : Fin 256, (BitVec.ofInt 8 (x.val : Int) ||| BitVec.ofInt 8 128).toNat = x.val % 128 + 128 := by decide +kernel
theorem wrap8 (n : Nat) : IntKind.u8.wrap (n : Int) = ((n % 256 : Nat) : Int) := by
  simp [IntKind.wrap, IntKind.signed, IntKind.bits]
theorem zmr {n : Nat} (h : n < 256) : IntKind.u8.wrap (n : Int) = (n : Int) := by rw [wrap8, Nat.mod_eq_of_lt h]
theorem zca {n : Nat} (h : n < 18446744073709551616) : IntKind.u64.wrap (n : Int) = (n : Int) := by
  simp [IntKind.wrap, IntKind.signed, IntKind.bits]
  omega
theorem zap {n : Int} (h1 : -9223372036854775808 ≤ n) (h2 : n ≤ 9223372036854775807) : IntKind.i64.wrap n = n := IntWalk.i64_in n ⟨h1, h2⟩
theorem ziB {n : Nat} (h : n < 256) : ((UInt8.ofNat n).toNat : Int) = (n : Int) := by
  simp; omega

structure TOp where
  kind : Int
  topic : List UInt8
  group : List UInt8
  offset : Int
  recs : List (List UInt8)
deriving DecidableEq

def zcX (rs : List (List UInt8)) : List (List D) := rs.map fun r => [D.slice (bcs r)]
def opA (o : TOp) : AV := .agg [.d (.int .i64 o.kind), .d (.str o.topic), .d (.str o.group), .d (.int .i64 o.offset), .d (.slice (zcX o.recs))]
def noOp : TOp := ⟨0, [], [], 0, []⟩

theorem zA (rs : List (List UInt8)) : (zcX rs).length = rs.length := by simp [zcX]
theorem zdc {rs : List (List UInt8)} {k : Nat} {r : List UInt8} (h : rs[k]? = some r) : (zcX rs)[k]? = some [D.slice (bcs r)] := by simp [zcX, h]

def zpA (o : TOp) : TOp :=
  if o.kind = 1 then { noOp with kind := o.kind, topic := o.topic }
  else if o.kind = 2 then { noOp with kind := o.kind, topic := o.topic, recs := o.recs }
  else if o.kind = 3 then { noOp with kind := o.kind, topic := o.topic, group := o.group, offset := o.offset }
  else if o.kind = 4 then { noOp with kind := o.kind, topic := o.topic, offset := o.offset }
  else { noOp with kind := o.kind }
def zez (o : TOp) : Bool := decide (0 ≤ o.kind ∧ o.kind ≤ 4)
def zbK (name : List UInt8 → Bool) (o : TOp) : Int :=
  if zez o = false ∨ o ≠ zpA o then 60
  else if o.kind ≠ 0 ∧ name o.topic = false then 61
  else if o.kind = 3 ∧ name o.group = false then 61
  else if o.kind = 2 ∧ (o.recs.length < 1 ∨ o.recs.length > 4 ∨ o.recs.any (fun r => decide (r.length > 64)) = true) then 62
  else if o.offset < 0 ∨ o.offset > 9007199254740992 then 60
  else 0

def zmQ (x : List UInt8) : List UInt8 := zcG x.length ++ x
def zkK (rs : List (List UInt8)) : List UInt8 := (rs.map zmQ).flatten
def opB (o : TOp) : List UInt8 :=
  zcG o.kind.toNat ++ ((if o.kind ≠ 0 then zmQ o.topic else []) ++
    (if o.kind = 2 then zcG o.recs.length ++ zkK o.recs else if o.kind = 3 then zmQ o.group ++ zcG o.offset.toNat else if o.kind = 4 then zcG o.offset.toNat else []))
theorem opB_0 {o : TOp} (h : o.kind = 0) : opB o = zcG o.kind.toNat := by simp [opB, h]
theorem opB_1 {o : TOp} (h : o.kind = 1) : opB o = zcG o.kind.toNat ++ (zcG o.topic.length ++ o.topic) := by simp [opB, h, zmQ]
theorem opB_2 {o : TOp} (h : o.kind = 2) : opB o = zcG o.kind.toNat ++ (zcG o.topic.length ++ (o.topic ++ (zcG o.recs.length ++ zkK o.recs))) := by simp [opB, h, zmQ]
theorem opB_3 {o : TOp} (h : o.kind = 3) : opB o = zcG o.kind.toNat ++ (zcG o.topic.length ++ (o.topic ++ (zcG o.group.length ++ (o.group ++ zcG o.offset.toNat)))) := by simp [opB, h, zmQ]
theorem opB_4 {o : TOp} (h : o.kind = 4) : opB o = zcG o.kind.toNat ++ (zcG o.topic.length ++ (o.topic ++ zcG o.offset.toNat)) := by simp [opB, h, zmQ]
def zgo (o : TOp) : Nat := o.topic.length + o.group.length + (o.recs.map fun r => r.length + 10).sum
theorem zfQ {x : List UInt8} (h : x.length < 18446744073709551616) : (zmQ x).length ≤ x.length + 10 := by
  have := zO h
  simp only [zmQ, List.length_append]; omega
theorem zgd (rs : List (List UInt8)) (h : (rs.map fun r => r.length + 10).sum ≤ 1073741824) : ∀ k, (zkK (rs.take k)).length ≤ (rs.map fun r => r.length + 10).sum := by
  have key : ∀ l : List (List UInt8), (l.map fun r => r.length + 10).sum ≤ 1073741824 → (zkK l).length ≤ (l.map fun r => r.length + 10).sum := by
    intro l
    induction l with
    | nil => simp [zkK]
    | cons r l ih =>
      intro h
      simp only [List.map_cons, List.sum_cons] at h ⊢
      have h1 := ih (by omega)
      have h2 := zfQ (x := r) (by omega)
      simp only [zkK, List.map_cons, List.flatten_cons, List.length_append] at h1 ⊢
      omega
  have zpn : ∀ (l : List (List UInt8)) k, ((l.take k).map fun r => r.length + 10).sum ≤ (l.map fun r => r.length + 10).sum := by
    intro l
    induction l with
    | nil => simp
    | cons r l ih =>
      intro k
      cases k with
      | zero => simp
      | succ k => simp only [List.take_succ_cons, List.map_cons, List.sum_cons]; have := ih k; omega
  intro k
  have h1 := zpn rs k
  have := key (rs.take k) (by omega)
  omega
theorem zot {rs : List (List UInt8)} {k : Nat} {r : List UInt8} (h : rs[k]? = some r) : zkK (rs.take (k + 1)) = zkK (rs.take k) ++ zmQ r := by
  rw [List.take_add_one, h]; simp [zkK]
theorem zgJ (rs : List (List UInt8)) : rs.length ≤ (rs.map fun r => r.length + 10).sum := by
  induction rs with
  | nil => simp
  | cons r l ih => simp only [List.map_cons, List.sum_cons, List.length_cons]; omega
theorem rec_le {rs : List (List UInt8)} {r : List UInt8} (h : r ∈ rs) : r.length ≤ (rs.map fun r => r.length + 10).sum := by
  induction rs with
  | nil => cases h
  | cons x l ih =>
    simp only [List.map_cons, List.sum_cons]
    rcases List.mem_cons.1 h with rfl | h
    · omega
    · have := ih h; omega
theorem zpV {name : List UInt8 → Bool} {o : TOp} (h : zbK name o = 0) : 0 ≤ o.kind ∧ o.kind ≤ 4 ∧ 0 ≤ o.offset ∧ o.offset ≤ 9007199254740992 ∧ o = zpA o := by
  unfold zbK zez at h
  grind
theorem zkI {α : Type} {a b : List α} (hl : a.length = b.length) {k : Nat} (hk : k = a.length) (h : a.take k = b.take k) : a = b := by
  rw [hk, List.take_length, hl, List.take_length] at h
  exact h
theorem zeB {α : Type} {a b : List α} {k : Nat} {x y : α} (ha : a[k]? = some x) (hb : b[k]? = some y) (h : a.take k = b.take k) (e : x = y) : a.take (k + 1) = b.take (k + 1) := by
  rw [List.take_add_one, List.take_add_one, ha, hb, h, e]

theorem list_as {α β : Type} {f : α → β} : ∀ {l : List β}, (∀ e ∈ l, ∃ a, e = f a) → ∃ as_ : List α, l = as_.map f
  | [], _ => ⟨[], rfl⟩
  | e :: l, h => by
    obtain ⟨a, rfl⟩ := h e List.mem_cons_self
    obtain ⟨as_, rfl⟩ := list_as (l := l) (fun x hx => h x (List.mem_cons_of_mem _ hx))
    exact ⟨a :: as_, rfl⟩
theorem fits1 {t : Ty} {d : D} (h : zdf [t] [d]) : zha t d := h.2 0 t d rfl rfl
theorem one_of {t : Ty} {ds : List D} (h : zdf [t] ds) : ∃ d, ds = [d] ∧ zha t d := by
  match ds, h with
  | [d], h => exact ⟨d, rfl, fits1 h⟩
theorem zaE {t : Ty} {ts : List Ty} {ds : List D} (h : zdf (t :: ts) ds) : ∃ d ds', ds = d :: ds' ∧ zha t d ∧ zdf ts ds' := by
  match ds, h with
  | d :: ds', h => exact ⟨d, ds', rfl, h.2 0 t d rfl rfl, by have := h.1; simpa using this, fun i t d h1 h2 => h.2 (i + 1) t d h1 h2⟩
theorem zmH {ds : List D} (h : zdf [] ds) : ds = [] := by
  have := h.1; simpa using this
theorem dec_int {k : IntKind} {d : D} (h : zha (.int k) d) : ∃ n, d = .int k n ∧ (Lit.int k n).wf = true := by cases h with | int _ n h => exact ⟨n, rfl, h⟩
theorem zdu {d : D} (h : zha (.int .i64) d) : ∃ n, d = .int .i64 n ∧ -9223372036854775808 ≤ n ∧ n ≤ 9223372036854775807 := by
  obtain ⟨n, hd, h2⟩ := dec_int h
  exact ⟨n, hd, by simpa [Lit.wf, IntKind.min, IntKind.max, IntKind.signed, IntKind.bits] using h2⟩
theorem dec_u8 {d : D} (h : zha (.int .u8) d) : ∃ b : UInt8, d = .int .u8 b.toNat := by
  obtain ⟨n, hd, h2⟩ := dec_int h
  have h' : 0 ≤ n ∧ n ≤ 255 := by simpa [Lit.wf, IntKind.min, IntKind.max, IntKind.signed, IntKind.bits] using h2
  exact ⟨UInt8.ofNat n.toNat, by rw [hd, ziB (by omega)]; congr 1; omega⟩
theorem dec_str {d : D} (h : zha .str d) : ∃ s, d = .str s := by cases h with | str s _ => exact ⟨s, rfl⟩
theorem dec_slice {α : Type} {ts : List Ty} {d : D} {f : α → List D} (h : zha (.slice ts) d) (hf : ∀ e, zdf ts e → ∃ a, e = f a) : ∃ as_ : List α, d = .slice (as_.map f) := by
  cases h with
  | slice _ es h1 h2 h3 =>
    obtain ⟨as_, rfl⟩ := list_as (f := f) (fun e he => hf e ⟨h2 e he, h3 e he⟩)
    exact ⟨as_, rfl⟩
theorem dec_bytes {d : D} (h : zha (.slice [.int .u8]) d) : ∃ bs, d = .slice (bcs bs) := dec_slice h fun e he => by
  obtain ⟨d, rfl, h⟩ := one_of he
  obtain ⟨b, rfl⟩ := dec_u8 h
  exact ⟨b, rfl⟩
theorem dec_recs {d : D} (h : zha (.slice [.slice [.int .u8]]) d) : ∃ rs, d = .slice (zcX rs) := dec_slice h fun e he => by
  obtain ⟨d, rfl, h⟩ := one_of he
  obtain ⟨b, rfl⟩ := dec_bytes h
  exact ⟨b, rfl⟩
theorem bulk_bcs (bs : List UInt8) : zcN (bcs bs) = bs.length := by
  induction bs with
  | nil => rfl
  | cons b bs ih => simp only [bcs, List.map_cons, zaW, zcN, zcA, zfA, List.length_cons] at ih ⊢; omega
theorem bulk_recs (rs : List (List UInt8)) : zcN (zcX rs) = (rs.map fun r => r.length + 1).sum := by
  induction rs with
  | nil => rfl
  | cons r rs ih => simp only [zcX, List.map_cons, zcN, zcA, zfA, List.sum_cons, bulk_bcs] at ih ⊢; omega
def i64r (n : Int) : Prop := -9223372036854775808 ≤ n ∧ n ≤ 9223372036854775807
def opR (o : TOp) : Prop := i64r o.kind ∧ i64r o.offset
def opD (o : TOp) : List D := [.int .i64 o.kind, .str o.topic, .str o.group, .int .i64 o.offset, .slice (zcX o.recs)]
theorem opSz_bulk (o : TOp) : zgo o ≤ 10 * zcA (opD o) := by
  have : (o.recs.map fun r => r.length + 10).sum ≤ 10 * (o.recs.map fun r => r.length + 1).sum := by
    induction o.recs with
    | nil => simp
    | cons r rs ih => simp only [List.map_cons, List.sum_cons]; omega
  simp only [zgo, opD, zcA, zfA, bulk_recs]
  omega

structure zP where
  key : Int
  dig : Int
deriving DecidableEq
structure zf where
  client : Int
  time : Int
  op : TOp
  key : Int
  dig : Int
deriving DecidableEq
structure zw where
  view : Int
  seq : Int
  dig : Int
  fkey : Int
  fdig : Int
  signs : List zP
  batch : List zf
deriving DecidableEq
structure TCert where
  seq : Int
  dig : Int
  signs : List zP
deriving DecidableEq
structure TChange where
  view : Int
  src : Int
  cert : TCert
  above : List zw
  key : Int
  dig : Int
deriving DecidableEq
structure TEntry where
  view : Int
  seq : Int
  batch : List zf
  key : Int
  dig : Int
deriving DecidableEq

def zfn (s : zP) : List D := [.int .i64 s.key, .int .i64 s.dig]
abbrev zaB (l : List zP) : List (List D) := l.map zfn
def zas (x : zf) : List D := [.int .i64 x.client, .int .i64 x.time, .int .i64 x.op.kind, .str x.op.topic, .str x.op.group, .int .i64 x.op.offset, .slice (zcX x.op.recs), .int .i64 x.key, .int .i64 x.dig]
abbrev zaM (b : List zf) : List (List D) := b.map zas
def zdY (p : zw) : List D := [.int .i64 p.view, .int .i64 p.seq, .int .i64 p.dig, .int .i64 p.fkey, .int .i64 p.fdig, .slice (zaB p.signs), .slice (zaM p.batch)]
abbrev zba (l : List zw) : List (List D) := l.map zdY
theorem zmS {α : Type} {f : α → List D} {n : Nat} (hf : ∀ a, (f a).length = n) (l : List α) : ∀ e ∈ l.map f, e.length = n := by
  intro e he
  obtain ⟨a, _, rfl⟩ := List.mem_map.1 he
  exact hf a
theorem batch_nine (l : List zf) : ∀ e ∈ zaM l, e.length = 9 := zmS (f := zas) (fun _ => rfl) l
theorem zax {α : Type} {f : α → List D} {l : List α} {k : Nat} {x : α} (h : l[k]? = some x) : (l.map f)[k]? = some (f x) := by simp [h]
theorem map_snoc {α : Type} {f : α → List D} {l : List α} {k : Nat} {x : α} (h : l[k]? = some x) : (l.take k).map f ++ [f x] = (l.take (k + 1)).map f := by
  rw [List.take_add_one, h]; simp

def tySign : List Ty := [.int .i64, .int .i64]
def tySigned : List Ty := [.int .i64, .int .i64, .int .i64, .str, .str, .int .i64, .slice [.slice [.int .u8]], .int .i64, .int .i64]
def tyPrep : List Ty := [.int .i64, .int .i64, .int .i64, .int .i64, .int .i64, .slice tySign, .slice tySigned]
def signR (s : zP) : Prop := i64r s.key ∧ i64r s.dig
def signedR (x : zf) : Prop := i64r x.client ∧ i64r x.time ∧ opR x.op ∧ i64r x.key ∧ i64r x.dig
theorem zln {α : Type} {ts : List Ty} {d : D} {f : α → List D} {R : α → Prop} (h : zha (.slice ts) d) (hf : ∀ e, zdf ts e → ∃ a, e = f a ∧ R a) : ∃ as_ : List α, d = .slice (as_.map f) ∧ ∀ a ∈ as_, R a := by
  cases h with
  | slice _ es h1 h2 h3 =>
    have : ∀ l : List (List D), (∀ e ∈ l, zdf ts e) → ∃ as_ : List α, l = as_.map f ∧ ∀ a ∈ as_, R a := by
      intro l
      induction l with
      | nil => intro _; exact ⟨[], rfl, by simp⟩
      | cons e l ih =>
        intro hl
        obtain ⟨a, rfl, ha⟩ := hf e (hl e (.head _))
        obtain ⟨as_, rfl, has⟩ := ih fun e he => hl e (.tail _ he)
        exact ⟨a :: as_, rfl, by simpa using ⟨ha, has⟩⟩
    obtain ⟨as_, rfl, h4⟩ := this es (fun e he => ⟨h2 e he, h3 e he⟩)
    exact ⟨as_, rfl, h4⟩
theorem dec_sign {ds : List D} (h : zdf tySign ds) : ∃ s : zP, ds = zfn s ∧ signR s := by
  obtain ⟨d1, ds, rfl, h1, h⟩ := zaE h
  obtain ⟨d2, ds, rfl, h2, h⟩ := zaE h
  obtain rfl := zmH h
  obtain ⟨a, rfl, ha⟩ := zdu h1
  obtain ⟨b, rfl, hb⟩ := zdu h2
  exact ⟨⟨a, b⟩, rfl, ha, hb⟩
theorem dec_signed {ds : List D} (h : zdf tySigned ds) : ∃ s : zf, ds = zas s ∧ signedR s := by
  obtain ⟨d1, ds, rfl, h1, h⟩ := zaE h
  obtain ⟨d2, ds, rfl, h2, h⟩ := zaE h
  obtain ⟨d3, ds, rfl, h3, h⟩ := zaE h
  obtain ⟨d4, ds, rfl, h4, h⟩ := zaE h
  obtain ⟨d5, ds, rfl, h5, h⟩ := zaE h
  obtain ⟨d6, ds, rfl, h6, h⟩ := zaE h
  obtain ⟨d7, ds, rfl, h7, h⟩ := zaE h
  obtain ⟨d8, ds, rfl, h8, h⟩ := zaE h
  obtain ⟨d9, ds, rfl, h9, h⟩ := zaE h
  obtain rfl := zmH h
  obtain ⟨a1, rfl, k1⟩ := zdu h1
  obtain ⟨a2, rfl, k2⟩ := zdu h2
  obtain ⟨a3, rfl, k3⟩ := zdu h3
  obtain ⟨a4, rfl⟩ := dec_str h4
  obtain ⟨a5, rfl⟩ := dec_str h5
  obtain ⟨a6, rfl, k6⟩ := zdu h6
  obtain ⟨a7, rfl⟩ := dec_recs h7
  obtain ⟨a8, rfl, k8⟩ := zdu h8
  obtain ⟨a9, rfl, k9⟩ := zdu h9
  exact ⟨⟨a1, a2, ⟨a3, a4, a5, a6, a7⟩, a8, a9⟩, rfl, k1, k2, ⟨k3, k6⟩, k8, k9⟩
end Go.AW
