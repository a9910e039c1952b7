/- How a number is put: seven bits a byte. No program in sight. -/
import Derived.IntWalk
import Derived.Test.YtjjchfbckfopkaaGreatAwEnd
import Derived.Test.YtjjchfbckfopkaaGreatAwFun
set_option linter.all false
namespace Go.AW

def zcr (n : Nat) : List UInt8 := if n < 128 then [UInt8.ofNat n] else UInt8.ofNat (n % 128 + 128) :: zcr (n / 128)
termination_by n
decreasing_by omega

theorem zhz {n : Nat} (h : n < 128) : zcr n = [UInt8.ofNat n] := by rw [zcr, if_pos h]
theorem zoh {n : Nat} (h : ¬ n < 128) : zcr n = UInt8.ofNat (n % 128 + 128) :: zcr (n / 128) := by rw [zcr, if_neg h]
theorem numB_len : ∀ (k n : Nat), n < 128 ^ (k + 1) → 1 ≤ (zcr n).length ∧ (zcr n).length ≤ k + 1
  | 0, n, h => by rw [zhz (by simpa using h)]; simp
  | k + 1, n, h => by
    by_cases hs : n < 128
    · rw [zhz hs]; simp
    · rw [zoh hs]
      have := numB_len k (n / 128) (by rw [Nat.div_lt_iff_lt_mul (by omega)]; rw [Nat.pow_succ] at h; exact h)
      simp; omega
theorem zL {n : Nat} (h : n < 18446744073709551616) : 1 ≤ (zcr n).length ∧ (zcr n).length ≤ 10 := numB_len 9 n (by omega)

theorem or128 : ∀ x : Fin 256, (BitVec.ofInt 8 (x.val : Int) ||| BitVec.ofInt 8 128).toNat = x.val % 128 + 128 := by decide +kernel
theorem wrap8 (n : Nat) : IntKind.u8.wrap (n : Int) = ((n % 256 : Nat) : Int) := by
  simp [IntKind.wrap, IntKind.signed, IntKind.bits]
theorem zlj {n : Nat} (h : n < 256) : IntKind.u8.wrap (n : Int) = (n : Int) := by rw [wrap8, Nat.mod_eq_of_lt h]
theorem zbU {n : Nat} (h : n < 18446744073709551616) : IntKind.u64.wrap (n : Int) = (n : Int) := by
  simp [IntKind.wrap, IntKind.signed, IntKind.bits]
  omega
theorem zao {n : Int} (h1 : -9223372036854775808 ≤ n) (h2 : n ≤ 9223372036854775807) : IntKind.i64.wrap n = n := IntWalk.i64_in n ⟨h1, h2⟩
theorem zhK {n : Nat} (h : n < 256) : ((UInt8.ofNat n).toNat : Int) = (n : Int) := by
  simp; omega

structure TOp where
  kind : Int
  topic : List UInt8
  group : List UInt8
  offset : Int
  recs : List (List UInt8)
deriving DecidableEq

def zeu (rs : List (List UInt8)) : List (List D) := rs.map fun r => [D.slice (bcs r)]
def opA (o : TOp) : AV := .agg [.d (.int .i64 o.kind), .d (.str o.topic), .d (.str o.group), .d (.int .i64 o.offset), .d (.slice (zeu o.recs))]
def noOp : TOp := ⟨0, [], [], 0, []⟩

theorem zA (rs : List (List UInt8)) : (zeu rs).length = rs.length := by simp [zeu]
theorem zea {rs : List (List UInt8)} {k : Nat} {r : List UInt8} (h : rs[k]? = some r) : (zeu rs)[k]? = some [D.slice (bcs r)] := by simp [zeu, h]

def zof (o : TOp) : TOp :=
  if o.kind = 1 then { noOp with kind := o.kind, topic := o.topic }
  else if o.kind = 2 then { noOp with kind := o.kind, topic := o.topic, recs := o.recs }
  else if o.kind = 3 then { noOp with kind := o.kind, topic := o.topic, group := o.group, offset := o.offset }
  else if o.kind = 4 then { noOp with kind := o.kind, topic := o.topic, offset := o.offset }
  else { noOp with kind := o.kind }
def zdU (o : TOp) : Bool := decide (0 ≤ o.kind ∧ o.kind ≤ 4)
def zbE (name : List UInt8 → Bool) (o : TOp) : Int :=
  if zdU o = false ∨ o ≠ zof o then 60
  else if o.kind ≠ 0 ∧ name o.topic = false then 61
  else if o.kind = 3 ∧ name o.group = false then 61
  else if o.kind = 2 ∧ (o.recs.length < 1 ∨ o.recs.length > 4 ∨ o.recs.any (fun r => decide (r.length > 64)) = true) then 62
  else if o.offset < 0 ∨ o.offset > 9007199254740992 then 60
  else 0

def zlG (x : List UInt8) : List UInt8 := zcr x.length ++ x
def zjv (rs : List (List UInt8)) : List UInt8 := (rs.map zlG).flatten
def opB (o : TOp) : List UInt8 :=
  zcr o.kind.toNat ++ ((if o.kind ≠ 0 then zlG o.topic else []) ++
    (if o.kind = 2 then zcr o.recs.length ++ zjv o.recs else if o.kind = 3 then zlG o.group ++ zcr o.offset.toNat else if o.kind = 4 then zcr o.offset.toNat else []))
theorem opB_0 {o : TOp} (h : o.kind = 0) : opB o = zcr o.kind.toNat := by simp [opB, h]
theorem opB_1 {o : TOp} (h : o.kind = 1) : opB o = zcr o.kind.toNat ++ (zcr o.topic.length ++ o.topic) := by simp [opB, h, zlG]
theorem opB_2 {o : TOp} (h : o.kind = 2) : opB o = zcr o.kind.toNat ++ (zcr o.topic.length ++ (o.topic ++ (zcr o.recs.length ++ zjv o.recs))) := by simp [opB, h, zlG]
theorem opB_3 {o : TOp} (h : o.kind = 3) : opB o = zcr o.kind.toNat ++ (zcr o.topic.length ++ (o.topic ++ (zcr o.group.length ++ (o.group ++ zcr o.offset.toNat)))) := by simp [opB, h, zlG]
theorem opB_4 {o : TOp} (h : o.kind = 4) : opB o = zcr o.kind.toNat ++ (zcr o.topic.length ++ (o.topic ++ zcr o.offset.toNat)) := by simp [opB, h, zlG]
def zgJ (o : TOp) : Nat := o.topic.length + o.group.length + (o.recs.map fun r => r.length + 10).sum
theorem zfl {x : List UInt8} (h : x.length < 18446744073709551616) : (zlG x).length ≤ x.length + 10 := by
  have := zL h
  simp only [zlG, List.length_append]; omega
theorem zfv (rs : List (List UInt8)) (h : (rs.map fun r => r.length + 10).sum ≤ 1073741824) : ∀ k, (zjv (rs.take k)).length ≤ (rs.map fun r => r.length + 10).sum := by
  have key : ∀ l : List (List UInt8), (l.map fun r => r.length + 10).sum ≤ 1073741824 → (zjv l).length ≤ (l.map fun r => r.length + 10).sum := by
    intro l
    induction l with
    | nil => simp [zjv]
    | cons r l ih =>
      intro h
      simp only [List.map_cons, List.sum_cons] at h ⊢
      have h1 := ih (by omega)
      have h2 := zfl (x := r) (by omega)
      simp only [zjv, List.map_cons, List.flatten_cons, List.length_append] at h1 ⊢
      omega
  have znS : ∀ (l : List (List UInt8)) k, ((l.take k).map fun r => r.length + 10).sum ≤ (l.map fun r => r.length + 10).sum := by
    intro l
    induction l with
    | nil => simp
    | cons r l ih =>
      intro k
      cases k with
      | zero => simp
      | succ k => simp only [List.take_succ_cons, List.map_cons, List.sum_cons]; have := ih k; omega
  intro k
  have h1 := znS rs k
  have := key (rs.take k) (by omega)
  omega
theorem znd {rs : List (List UInt8)} {k : Nat} {r : List UInt8} (h : rs[k]? = some r) : zjv (rs.take (k + 1)) = zjv (rs.take k) ++ zlG r := by
  rw [List.take_add_one, h]; simp [zjv]
theorem zgc (rs : List (List UInt8)) : rs.length ≤ (rs.map fun r => r.length + 10).sum := by
  induction rs with
  | nil => simp
  | cons r l ih => simp only [List.map_cons, List.sum_cons, List.length_cons]; omega
theorem rec_le {rs : List (List UInt8)} {r : List UInt8} (h : r ∈ rs) : r.length ≤ (rs.map fun r => r.length + 10).sum := by
  induction rs with
  | nil => cases h
  | cons x l ih =>
    simp only [List.map_cons, List.sum_cons]
    rcases List.mem_cons.1 h with rfl | h
    · omega
    · have := ih h; omega
theorem zoA {name : List UInt8 → Bool} {o : TOp} (h : zbE name o = 0) : 0 ≤ o.kind ∧ o.kind ≤ 4 ∧ 0 ≤ o.offset ∧ o.offset ≤ 9007199254740992 ∧ o = zof o := by
  unfold zbE zdU at h
  grind
theorem take_eq_of {α : Type} {a b : List α} (hl : a.length = b.length) {k : Nat} (hk : k = a.length) (h : a.take k = b.take k) : a = b := by
  rw [hk, List.take_length, hl, List.take_length] at h
  exact h
theorem take_succ_eq {α : Type} {a b : List α} {k : Nat} {x y : α} (ha : a[k]? = some x) (hb : b[k]? = some y) (h : a.take k = b.take k) (e : x = y) : a.take (k + 1) = b.take (k + 1) := by
  rw [List.take_add_one, List.take_add_one, ha, hb, h, e]

theorem list_as {α β : Type} {f : α → β} : ∀ {l : List β}, (∀ e ∈ l, ∃ a, e = f a) → ∃ as_ : List α, l = as_.map f
  | [], _ => ⟨[], rfl⟩
  | e :: l, h => by
    obtain ⟨a, rfl⟩ := h e List.mem_cons_self
    obtain ⟨as_, rfl⟩ := list_as (l := l) (fun x hx => h x (List.mem_cons_of_mem _ hx))
    exact ⟨a :: as_, rfl⟩
theorem fits1 {t : Ty} {d : D} (h : zdI [t] [d]) : zhl t d := h.2 0 t d rfl rfl
theorem one_of {t : Ty} {ds : List D} (h : zdI [t] ds) : ∃ d, ds = [d] ∧ zhl t d := by
  match ds, h with
  | [d], h => exact ⟨d, rfl, fits1 h⟩
theorem zaF {t : Ty} {ts : List Ty} {ds : List D} (h : zdI (t :: ts) ds) : ∃ d ds', ds = d :: ds' ∧ zhl t d ∧ zdI ts ds' := by
  match ds, h with
  | d :: ds', h => exact ⟨d, ds', rfl, h.2 0 t d rfl rfl, by have := h.1; simpa using this, fun i t d h1 h2 => h.2 (i + 1) t d h1 h2⟩
theorem zlv {ds : List D} (h : zdI [] ds) : ds = [] := by
  have := h.1; simpa using this
theorem dec_int {k : IntKind} {d : D} (h : zhl (.int k) d) : ∃ n, d = .int k n ∧ (Lit.int k n).wf = true := by cases h with | int _ n h => exact ⟨n, rfl, h⟩
theorem zdx {d : D} (h : zhl (.int .i64) d) : ∃ n, d = .int .i64 n ∧ -9223372036854775808 ≤ n ∧ n ≤ 9223372036854775807 := by
  obtain ⟨n, hd, h2⟩ := dec_int h
  exact ⟨n, hd, by simpa [Lit.wf, IntKind.min, IntKind.max, IntKind.signed, IntKind.bits] using h2⟩
theorem dec_u8 {d : D} (h : zhl (.int .u8) d) : ∃ b : UInt8, d = .int .u8 b.toNat := by
  obtain ⟨n, hd, h2⟩ := dec_int h
  have h' : 0 ≤ n ∧ n ≤ 255 := by simpa [Lit.wf, IntKind.min, IntKind.max, IntKind.signed, IntKind.bits] using h2
  exact ⟨UInt8.ofNat n.toNat, by rw [hd, zhK (by omega)]; congr 1; omega⟩
theorem dec_str {d : D} (h : zhl .str d) : ∃ s, d = .str s := by cases h with | str s _ => exact ⟨s, rfl⟩
theorem zja {α : Type} {ts : List Ty} {d : D} {f : α → List D} (h : zhl (.slice ts) d) (hf : ∀ e, zdI ts e → ∃ a, e = f a) : ∃ as_ : List α, d = .slice (as_.map f) := by
  cases h with
  | slice _ es h1 h2 h3 =>
    obtain ⟨as_, rfl⟩ := list_as (f := f) (fun e he => hf e ⟨h2 e he, h3 e he⟩)
    exact ⟨as_, rfl⟩
theorem dec_bytes {d : D} (h : zhl (.slice [.int .u8]) d) : ∃ bs, d = .slice (bcs bs) := zja h fun e he => by
  obtain ⟨d, rfl, h⟩ := one_of he
  obtain ⟨b, rfl⟩ := dec_u8 h
  exact ⟨b, rfl⟩
theorem dec_recs {d : D} (h : zhl (.slice [.slice [.int .u8]]) d) : ∃ rs, d = .slice (zeu rs) := zja h fun e he => by
  obtain ⟨d, rfl, h⟩ := one_of he
  obtain ⟨b, rfl⟩ := dec_bytes h
  exact ⟨b, rfl⟩
def i64r (n : Int) : Prop := -9223372036854775808 ≤ n ∧ n ≤ 9223372036854775807
def opR (o : TOp) : Prop := i64r o.kind ∧ i64r o.offset

structure zO where
  key : Int
  dig : Int
deriving DecidableEq
structure ze where
  client : Int
  time : Int
  op : TOp
  key : Int
  dig : Int
deriving DecidableEq
structure zav where
  view : Int
  seq : Int
  dig : Int
  fkey : Int
  fdig : Int
  signs : List zO
  batch : List ze
deriving DecidableEq
structure TCert where
  seq : Int
  dig : Int
  signs : List zO
deriving DecidableEq
structure TChange where
  view : Int
  src : Int
  cert : TCert
  above : List zav
  key : Int
  dig : Int
deriving DecidableEq
structure TEntry where
  view : Int
  seq : Int
  batch : List ze
  key : Int
  dig : Int
deriving DecidableEq

def zgb (s : zO) : List D := [.int .i64 s.key, .int .i64 s.dig]
abbrev zaL (l : List zO) : List (List D) := l.map zgb
def zaK (x : ze) : List D := [.int .i64 x.client, .int .i64 x.time, .int .i64 x.op.kind, .str x.op.topic, .str x.op.group, .int .i64 x.op.offset, .slice (zeu x.op.recs), .int .i64 x.key, .int .i64 x.dig]
abbrev zbn (b : List ze) : List (List D) := b.map zaK
def prepD (p : zav) : List D := [.int .i64 p.view, .int .i64 p.seq, .int .i64 p.dig, .int .i64 p.fkey, .int .i64 p.fdig, .slice (zaL p.signs), .slice (zbn p.batch)]
abbrev prepsE (l : List zav) : List (List D) := l.map prepD
theorem zog {α : Type} {f : α → List D} {n : Nat} (hf : ∀ a, (f a).length = n) (l : List α) : ∀ e ∈ l.map f, e.length = n := by
  intro e he
  obtain ⟨a, _, rfl⟩ := List.mem_map.1 he
  exact hf a
theorem batch_nine (l : List ze) : ∀ e ∈ zbn l, e.length = 9 := zog (f := zaK) (fun _ => rfl) l
theorem zaT {α : Type} {f : α → List D} {l : List α} {k : Nat} {x : α} (h : l[k]? = some x) : (l.map f)[k]? = some (f x) := by simp [h]
theorem map_snoc {α : Type} {f : α → List D} {l : List α} {k : Nat} {x : α} (h : l[k]? = some x) : (l.take k).map f ++ [f x] = (l.take (k + 1)).map f := by
  rw [List.take_add_one, h]; simp

def tySign : List Ty := [.int .i64, .int .i64]
def tySigned : List Ty := [.int .i64, .int .i64, .int .i64, .str, .str, .int .i64, .slice [.slice [.int .u8]], .int .i64, .int .i64]
def tyPrep : List Ty := [.int .i64, .int .i64, .int .i64, .int .i64, .int .i64, .slice tySign, .slice tySigned]
def signR (s : zO) : Prop := i64r s.key ∧ i64r s.dig
def signedR (x : ze) : Prop := i64r x.client ∧ i64r x.time ∧ opR x.op ∧ i64r x.key ∧ i64r x.dig
def prepR (p : zav) : Prop := i64r p.view ∧ i64r p.seq ∧ i64r p.dig ∧ i64r p.fkey ∧ i64r p.fdig
theorem dec_sign {ds : List D} (h : zdI tySign ds) : ∃ s : zO, ds = zgb s ∧ signR s := by
  obtain ⟨d1, ds, rfl, h1, h⟩ := zaF h
  obtain ⟨d2, ds, rfl, h2, h⟩ := zaF h
  obtain rfl := zlv h
  obtain ⟨a, rfl, ha⟩ := zdx h1
  obtain ⟨b, rfl, hb⟩ := zdx h2
  exact ⟨⟨a, b⟩, rfl, ha, hb⟩
theorem dec_signed {ds : List D} (h : zdI tySigned ds) : ∃ s : ze, ds = zaK s ∧ signedR s := by
  obtain ⟨d1, ds, rfl, h1, h⟩ := zaF h
  obtain ⟨d2, ds, rfl, h2, h⟩ := zaF h
  obtain ⟨d3, ds, rfl, h3, h⟩ := zaF h
  obtain ⟨d4, ds, rfl, h4, h⟩ := zaF h
  obtain ⟨d5, ds, rfl, h5, h⟩ := zaF h
  obtain ⟨d6, ds, rfl, h6, h⟩ := zaF h
  obtain ⟨d7, ds, rfl, h7, h⟩ := zaF h
  obtain ⟨d8, ds, rfl, h8, h⟩ := zaF h
  obtain ⟨d9, ds, rfl, h9, h⟩ := zaF h
  obtain rfl := zlv h
  obtain ⟨a1, rfl, k1⟩ := zdx h1
  obtain ⟨a2, rfl, k2⟩ := zdx h2
  obtain ⟨a3, rfl, k3⟩ := zdx h3
  obtain ⟨a4, rfl⟩ := dec_str h4
  obtain ⟨a5, rfl⟩ := dec_str h5
  obtain ⟨a6, rfl, k6⟩ := zdx h6
  obtain ⟨a7, rfl⟩ := dec_recs h7
  obtain ⟨a8, rfl, k8⟩ := zdx h8
  obtain ⟨a9, rfl, k9⟩ := zdx h9
  exact ⟨⟨a1, a2, ⟨a3, a4, a5, a6, a7⟩, a8, a9⟩, rfl, k1, k2, ⟨k3, k6⟩, k8, k9⟩
theorem dec_prep {ds : List D} (h : zdI tyPrep ds) : ∃ s : zav, ds = prepD s ∧ prepR s := by
  obtain ⟨d1, ds, rfl, h1, h⟩ := zaF h
  obtain ⟨d2, ds, rfl, h2, h⟩ := zaF h
  obtain ⟨d3, ds, rfl, h3, h⟩ := zaF h
  obtain ⟨d4, ds, rfl, h4, h⟩ := zaF h
  obtain ⟨d5, ds, rfl, h5, h⟩ := zaF h
  obtain ⟨d6, ds, rfl, h6, h⟩ := zaF h
  obtain ⟨d7, ds, rfl, h7, h⟩ := zaF h
  obtain rfl := zlv h
  obtain ⟨a1, rfl, k1⟩ := zdx h1
  obtain ⟨a2, rfl, k2⟩ := zdx h2
  obtain ⟨a3, rfl, k3⟩ := zdx h3
  obtain ⟨a4, rfl, k4⟩ := zdx h4
  obtain ⟨a5, rfl, k5⟩ := zdx h5
  obtain ⟨a6, rfl⟩ := zja h6 (fun e he => (dec_sign he).imp fun _ h => h.1)
  obtain ⟨a7, rfl⟩ := zja h7 (fun e he => (dec_signed he).imp fun _ h => h.1)
  exact ⟨⟨a1, a2, a3, a4, a5, a6, a7⟩, rfl, k1, k2, k3, k4, k5⟩
end Go.AW
