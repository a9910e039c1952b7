/- Operations: what the document says of them. No program in sight. -/
import Derived.Test.YtpgahkdjkanblaaGreatSh
import Derived.Test.YtpgahkdjkanblaaGreatAwEnd
import Derived.Test.YtpgahkdjkanblaaGreatAwDraw2
set_option linter.all false
namespace Go.AW

structure TOp where
  kind : Int
  topic : List UInt8
  group : List UInt8
  offset : Int
  recs : List (List UInt8)
deriving DecidableEq

def zeT (rs : List (List UInt8)) : List (List D) := rs.map fun r => [D.slice (bcs r)]
def opA (o : TOp) : AV := .agg [.d (.int .i64 o.kind), .d (.str o.topic), .d (.str o.group), .d (.int .i64 o.offset), .d (.slice (zeT o.recs))]
def noOp : TOp := ⟨0, [], [], 0, []⟩

theorem zA (rs : List (List UInt8)) : (zeT rs).length = rs.length := by simp [zeT]
theorem zeZ {rs : List (List UInt8)} {k : Nat} {r : List UInt8} (h : rs[k]? = some r) : (zeT rs)[k]? = some [D.slice (bcs r)] := by simp [zeT, h]

def zme (o : TOp) : TOp :=
  if o.kind = 1 then { noOp with kind := o.kind, topic := o.topic }
  else if o.kind = 2 then { noOp with kind := o.kind, topic := o.topic, recs := o.recs }
  else if o.kind = 3 then { noOp with kind := o.kind, topic := o.topic, group := o.group, offset := o.offset }
  else if o.kind = 4 then { noOp with kind := o.kind, topic := o.topic, offset := o.offset }
  else { noOp with kind := o.kind }
def zgX (o : TOp) : Bool := decide (0 ≤ o.kind ∧ o.kind ≤ 4)
def zcg (name : List UInt8 → Bool) (o : TOp) : Int :=
  if zgX o = false ∨ o ≠ zme o then 60
  else if o.kind ≠ 0 ∧ name o.topic = false then 61
  else if o.kind = 3 ∧ name o.group = false then 61
  else if o.kind = 2 ∧ (o.recs.length < 1 ∨ o.recs.length > 4 ∨ o.recs.any (fun r => decide (r.length > 64)) = true) then 62
  else if o.offset < 0 ∨ o.offset > 9007199254740992 then 60
  else 0

def zra (x : List UInt8) : List UInt8 := zcf x.length ++ x
def zqk (rs : List (List UInt8)) : List UInt8 := (rs.map zra).flatten
def opB (o : TOp) : List UInt8 :=
  zcf o.kind.toNat ++ ((if o.kind ≠ 0 then zra o.topic else []) ++
    (if o.kind = 2 then zcf o.recs.length ++ zqk o.recs else if o.kind = 3 then zra o.group ++ zcf o.offset.toNat else if o.kind = 4 then zcf o.offset.toNat else []))
theorem opB_0 {o : TOp} (h : o.kind = 0) : opB o = zcf o.kind.toNat := by simp [opB, h]
theorem opB_1 {o : TOp} (h : o.kind = 1) : opB o = zcf o.kind.toNat ++ (zcf o.topic.length ++ o.topic) := by simp [opB, h, zra]
theorem opB_2 {o : TOp} (h : o.kind = 2) : opB o = zcf o.kind.toNat ++ (zcf o.topic.length ++ (o.topic ++ (zcf o.recs.length ++ zqk o.recs))) := by simp [opB, h, zra]
theorem opB_3 {o : TOp} (h : o.kind = 3) : opB o = zcf o.kind.toNat ++ (zcf o.topic.length ++ (o.topic ++ (zcf o.group.length ++ (o.group ++ zcf o.offset.toNat)))) := by simp [opB, h, zra]
theorem opB_4 {o : TOp} (h : o.kind = 4) : opB o = zcf o.kind.toNat ++ (zcf o.topic.length ++ (o.topic ++ zcf o.offset.toNat)) := by simp [opB, h, zra]
def zlX (o : TOp) : Nat := o.topic.length + o.group.length + (o.recs.map fun r => r.length + 10).sum
theorem zgW {x : List UInt8} (h : x.length < 18446744073709551616) : (zra x).length ≤ x.length + 10 := by
  have := zp h
  simp only [zra, List.length_append]; omega
theorem zjL (rs : List (List UInt8)) (h : (rs.map fun r => r.length + 10).sum ≤ 1073741824) : ∀ k, (zqk (rs.take k)).length ≤ (rs.map fun r => r.length + 10).sum := by
  have key : ∀ l : List (List UInt8), (l.map fun r => r.length + 10).sum ≤ 1073741824 → (zqk l).length ≤ (l.map fun r => r.length + 10).sum := by
    intro l
    induction l with
    | nil => simp [zqk]
    | cons r l ih =>
      intro h
      simp only [List.map_cons, List.sum_cons] at h ⊢
      have h1 := ih (by omega)
      have h2 := zgW (x := r) (by omega)
      simp only [zqk, List.map_cons, List.flatten_cons, List.length_append] at h1 ⊢
      omega
  have sum_take : ∀ (l : List (List UInt8)) k, ((l.take k).map fun r => r.length + 10).sum ≤ (l.map fun r => r.length + 10).sum := by
    intro l
    induction l with
    | nil => simp
    | cons r l ih =>
      intro k
      cases k with
      | zero => simp
      | succ k => simp only [List.take_succ_cons, List.map_cons, List.sum_cons]; have := ih k; omega
  intro k
  have h1 := sum_take rs k
  have := key (rs.take k) (by omega)
  omega
theorem zuo {rs : List (List UInt8)} {k : Nat} {r : List UInt8} (h : rs[k]? = some r) : zqk (rs.take (k + 1)) = zqk (rs.take k) ++ zra r := by
  rw [List.take_add_one, h]; simp [zqk]
theorem zkH (rs : List (List UInt8)) : rs.length ≤ (rs.map fun r => r.length + 10).sum := by
  induction rs with
  | nil => simp
  | cons r l ih => simp only [List.map_cons, List.sum_cons, List.length_cons]; omega
theorem rec_le {rs : List (List UInt8)} {r : List UInt8} (h : r ∈ rs) : r.length ≤ (rs.map fun r => r.length + 10).sum := by
  induction rs with
  | nil => cases h
  | cons x l ih =>
    simp only [List.map_cons, List.sum_cons]
    rcases List.mem_cons.1 h with rfl | h
    · omega
    · have := ih h; omega
theorem zrN {name : List UInt8 → Bool} {o : TOp} (h : zcg name o = 0) : 0 ≤ o.kind ∧ o.kind ≤ 4 ∧ 0 ≤ o.offset ∧ o.offset ≤ 9007199254740992 ∧ o = zme o := by
  unfold zcg zgX at h
  grind
theorem zca {α : Type} {a b : List α} (hl : a.length = b.length) {k : Nat} (hk : k = a.length) (h : a.take k = b.take k) : a = b := by
  rw [hk, List.take_length, hl, List.take_length] at h
  exact h
theorem zbi {α : Type} {a b : List α} {k : Nat} {x y : α} (ha : a[k]? = some x) (hb : b[k]? = some y) (h : a.take k = b.take k) (e : x = y) : a.take (k + 1) = b.take (k + 1) := by
  rw [List.take_add_one, List.take_add_one, ha, hb, h, e]
end Go.AW

/- Arguments of known types as data of the document. -/
set_option linter.unusedSimpArgs false
namespace Go.AW

theorem list_as {α β : Type} {f : α → β} : ∀ {l : List β}, (∀ e ∈ l, ∃ a, e = f a) → ∃ as_ : List α, l = as_.map f
  | [], _ => ⟨[], rfl⟩
  | e :: l, h => by
    obtain ⟨a, rfl⟩ := h e List.mem_cons_self
    obtain ⟨as_, rfl⟩ := list_as (l := l) (fun x hx => h x (List.mem_cons_of_mem _ hx))
    exact ⟨a :: as_, rfl⟩
theorem fits1 {t : Ty} {d : D} (h : zeR [t] [d]) : zlV t d := h.2 0 t d rfl rfl
theorem one_of {t : Ty} {ds : List D} (h : zeR [t] ds) : ∃ d, ds = [d] ∧ zlV t d := by
  match ds, h with
  | [d], h => exact ⟨d, rfl, fits1 h⟩
theorem zaB {t : Ty} {ts : List Ty} {ds : List D} (h : zeR (t :: ts) ds) : ∃ d ds', ds = d :: ds' ∧ zlV t d ∧ zeR ts ds' := by
  match ds, h with
  | d :: ds', h => exact ⟨d, ds', rfl, h.2 0 t d rfl rfl, by have := h.1; simpa using this, fun i t d h1 h2 => h.2 (i + 1) t d h1 h2⟩
theorem zlY {ds : List D} (h : zeR [] ds) : ds = [] := by
  have := h.1; simpa using this
theorem dec_int {k : IntKind} {d : D} (h : zlV (.int k) d) : ∃ n, d = .int k n ∧ (Lit.int k n).wf = true := by cases h with | int _ n h => exact ⟨n, rfl, h⟩
theorem zdo {d : D} (h : zlV (.int .i64) d) : ∃ n, d = .int .i64 n ∧ -9223372036854775808 ≤ n ∧ n ≤ 9223372036854775807 := by
  obtain ⟨n, hd, h2⟩ := dec_int h
  exact ⟨n, hd, by simpa [Lit.wf, IntKind.min, IntKind.max, IntKind.signed, IntKind.bits] using h2⟩
theorem dec_u8 {d : D} (h : zlV (.int .u8) d) : ∃ b : UInt8, d = .int .u8 b.toNat := by
  obtain ⟨n, hd, h2⟩ := dec_int h
  have h' : 0 ≤ n ∧ n ≤ 255 := by simpa [Lit.wf, IntKind.min, IntKind.max, IntKind.signed, IntKind.bits] using h2
  exact ⟨UInt8.ofNat n.toNat, by rw [hd, znp (by omega)]; congr 1; omega⟩
theorem dec_str {d : D} (h : zlV .str d) : ∃ s, d = .str s := by cases h with | str s _ => exact ⟨s, rfl⟩
theorem zko {α : Type} {ts : List Ty} {d : D} {f : α → List D} (h : zlV (.slice ts) d) (hf : ∀ e, zeR ts e → ∃ a, e = f a) : ∃ as_ : List α, d = .slice (as_.map f) := by
  cases h with
  | slice _ es h1 h2 h3 =>
    obtain ⟨as_, rfl⟩ := list_as (f := f) (fun e he => hf e ⟨h2 e he, h3 e he⟩)
    exact ⟨as_, rfl⟩
theorem dec_bytes {d : D} (h : zlV (.slice [.int .u8]) d) : ∃ bs, d = .slice (bcs bs) := zko h fun e he => by
  obtain ⟨d, rfl, h⟩ := one_of he
  obtain ⟨b, rfl⟩ := dec_u8 h
  exact ⟨b, rfl⟩
theorem dec_recs {d : D} (h : zlV (.slice [.slice [.int .u8]]) d) : ∃ rs, d = .slice (zeT rs) := zko h fun e he => by
  obtain ⟨d, rfl, h⟩ := one_of he
  obtain ⟨b, rfl⟩ := dec_bytes h
  exact ⟨b, rfl⟩
theorem bulk_bcs (bs : List UInt8) : zec (bcs bs) = bs.length := by
  induction bs with
  | nil => rfl
  | cons b bs ih => simp only [bcs, List.map_cons, zcB, zec, zdH, zhp, List.length_cons] at ih ⊢; omega
theorem bulk_recs (rs : List (List UInt8)) : zec (zeT rs) = (rs.map fun r => r.length + 1).sum := by
  induction rs with
  | nil => rfl
  | cons r rs ih => simp only [zeT, List.map_cons, zec, zdH, zhp, List.sum_cons, bulk_bcs] at ih ⊢; omega
def zny (n : Int) : Prop := -9223372036854775808 ≤ n ∧ n ≤ 9223372036854775807
def opR (o : TOp) : Prop := zny o.kind ∧ zny o.offset
def opD (o : TOp) : List D := [.int .i64 o.kind, .str o.topic, .str o.group, .int .i64 o.offset, .slice (zeT o.recs)]
theorem opSz_bulk (o : TOp) : zlX o ≤ 10 * zdH (opD o) := by
  have : (o.recs.map fun r => r.length + 10).sum ≤ 10 * (o.recs.map fun r => r.length + 1).sum := by
    induction o.recs with
    | nil => simp
    | cons r rs ih => simp only [List.map_cons, List.sum_cons]; omega
  simp only [zlX, opD, zdH, zhp, bulk_recs]
  omega
end Go.AW

/- Requests, batches, certificates, view-changes: what the document holds, as data. No program in sight. -/
set_option linter.unusedSimpArgs false
namespace Go.AW

structure zP where
  key : Int
  dig : Int
deriving DecidableEq
structure zu where
  client : Int
  time : Int
  op : TOp
  key : Int
  dig : Int
deriving DecidableEq
structure zbW where
  view : Int
  seq : Int
  dig : Int
  fkey : Int
  fdig : Int
  signs : List zP
  batch : List zu
deriving DecidableEq
structure zek where
  seq : Int
  dig : Int
  signs : List zP
deriving DecidableEq
structure zaa where
  view : Int
  src : Int
  cert : zek
  above : List zbW
  key : Int
  dig : Int
deriving DecidableEq
structure ziN where
  view : Int
  seq : Int
  batch : List zu
  key : Int
  dig : Int
deriving DecidableEq

def zeS (s : zP) : List D := [.int .i64 s.key, .int .i64 s.dig]
abbrev zas (l : List zP) : List (List D) := l.map zeS
def zaM (x : zu) : List D := [.int .i64 x.client, .int .i64 x.time, .int .i64 x.op.kind, .str x.op.topic, .str x.op.group, .int .i64 x.op.offset, .slice (zeT x.op.recs), .int .i64 x.key, .int .i64 x.dig]
abbrev zbo (b : List zu) : List (List D) := b.map zaM
def zeV (p : zbW) : List D := [.int .i64 p.view, .int .i64 p.seq, .int .i64 p.dig, .int .i64 p.fkey, .int .i64 p.fdig, .slice (zas p.signs), .slice (zbo p.batch)]
abbrev zfI (l : List zbW) : List (List D) := l.map zeV
def zbm (c : zaa) : List D := [.int .i64 c.view, .int .i64 c.src, .int .i64 c.cert.seq, .int .i64 c.cert.dig, .slice (zas c.cert.signs), .slice (zfI c.above), .int .i64 c.key, .int .i64 c.dig]
abbrev zaP (l : List zaa) : List (List D) := l.map zbm
def zhJ (x : ziN) : List D := [.int .i64 x.view, .int .i64 x.seq, .slice (zbo x.batch), .int .i64 x.key, .int .i64 x.dig]
abbrev zfV (l : List ziN) : List (List D) := l.map zhJ

theorem zvS {α : Type} {f : α → List D} {n : Nat} (hf : ∀ a, (f a).length = n) (l : List α) : ∀ e ∈ l.map f, e.length = n := by
  intro e he
  obtain ⟨a, _, rfl⟩ := List.mem_map.1 he
  exact hf a
theorem zsb (l : List zP) : ∀ e ∈ zas l, e.length = 2 := zvS (f := zeS) (fun _ => rfl) l
theorem batch_nine (l : List zu) : ∀ e ∈ zbo l, e.length = 9 := zvS (f := zaM) (fun _ => rfl) l
theorem zQ {α : Type} {f : α → List D} {l : List α} {k : Nat} {x : α} (h : l[k]? = some x) : (l.map f)[k]? = some (f x) := by simp [h]
theorem map_snoc {α : Type} {f : α → List D} {l : List α} {k : Nat} {x : α} (h : l[k]? = some x) : (l.take k).map f ++ [f x] = (l.take (k + 1)).map f := by
  rw [List.take_add_one, h]; simp

def tySign : List Ty := [.int .i64, .int .i64]
def tySigned : List Ty := [.int .i64, .int .i64, .int .i64, .str, .str, .int .i64, .slice [.slice [.int .u8]], .int .i64, .int .i64]
def tyPrep : List Ty := [.int .i64, .int .i64, .int .i64, .int .i64, .int .i64, .slice tySign, .slice tySigned]
def tyChange : List Ty := [.int .i64, .int .i64, .int .i64, .int .i64, .slice tySign, .slice tyPrep, .int .i64, .int .i64]
def signR (s : zP) : Prop := zny s.key ∧ zny s.dig
def signedR (x : zu) : Prop := zny x.client ∧ zny x.time ∧ opR x.op ∧ zny x.key ∧ zny x.dig
def prepR (p : zbW) : Prop := zny p.view ∧ zny p.seq ∧ zny p.dig ∧ zny p.fkey ∧ zny p.fdig
def zmE (c : zaa) : Prop := zny c.view ∧ zny c.src ∧ zny c.cert.seq ∧ zny c.cert.dig ∧ (∀ p ∈ c.above, prepR p) ∧ zny c.key ∧ zny c.dig
theorem zva {α : Type} {ts : List Ty} {d : D} {f : α → List D} {R : α → Prop} (h : zlV (.slice ts) d) (hf : ∀ e, zeR ts e → ∃ a, e = f a ∧ R a) : ∃ as_ : List α, d = .slice (as_.map f) ∧ ∀ a ∈ as_, R a := by
  cases h with
  | slice _ es h1 h2 h3 =>
    have : ∀ l : List (List D), (∀ e ∈ l, zeR ts e) → ∃ as_ : List α, l = as_.map f ∧ ∀ a ∈ as_, R a := by
      intro l
      induction l with
      | nil => intro _; exact ⟨[], rfl, by simp⟩
      | cons e l ih =>
        intro hl
        obtain ⟨a, rfl, ha⟩ := hf e (hl e (.head _))
        obtain ⟨as_, rfl, has⟩ := ih fun e he => hl e (.tail _ he)
        exact ⟨a :: as_, rfl, by simpa using ⟨ha, has⟩⟩
    obtain ⟨as_, rfl, h4⟩ := this es (fun e he => ⟨h2 e he, h3 e he⟩)
    exact ⟨as_, rfl, h4⟩
theorem zwf {ds : List D} (h : zeR tySign ds) : ∃ s : zP, ds = zeS s ∧ signR s := by
  obtain ⟨d1, ds, rfl, h1, h⟩ := zaB h
  obtain ⟨d2, ds, rfl, h2, h⟩ := zaB h
  obtain rfl := zlY h
  obtain ⟨a, rfl, ha⟩ := zdo h1
  obtain ⟨b, rfl, hb⟩ := zdo h2
  exact ⟨⟨a, b⟩, rfl, ha, hb⟩
theorem dec_signed {ds : List D} (h : zeR tySigned ds) : ∃ s : zu, ds = zaM s ∧ signedR s := by
  obtain ⟨d1, ds, rfl, h1, h⟩ := zaB h
  obtain ⟨d2, ds, rfl, h2, h⟩ := zaB h
  obtain ⟨d3, ds, rfl, h3, h⟩ := zaB h
  obtain ⟨d4, ds, rfl, h4, h⟩ := zaB h
  obtain ⟨d5, ds, rfl, h5, h⟩ := zaB h
  obtain ⟨d6, ds, rfl, h6, h⟩ := zaB h
  obtain ⟨d7, ds, rfl, h7, h⟩ := zaB h
  obtain ⟨d8, ds, rfl, h8, h⟩ := zaB h
  obtain ⟨d9, ds, rfl, h9, h⟩ := zaB h
  obtain rfl := zlY h
  obtain ⟨a1, rfl, k1⟩ := zdo h1
  obtain ⟨a2, rfl, k2⟩ := zdo h2
  obtain ⟨a3, rfl, k3⟩ := zdo h3
  obtain ⟨a4, rfl⟩ := dec_str h4
  obtain ⟨a5, rfl⟩ := dec_str h5
  obtain ⟨a6, rfl, k6⟩ := zdo h6
  obtain ⟨a7, rfl⟩ := dec_recs h7
  obtain ⟨a8, rfl, k8⟩ := zdo h8
  obtain ⟨a9, rfl, k9⟩ := zdo h9
  exact ⟨⟨a1, a2, ⟨a3, a4, a5, a6, a7⟩, a8, a9⟩, rfl, k1, k2, ⟨k3, k6⟩, k8, k9⟩
theorem dec_prep {ds : List D} (h : zeR tyPrep ds) : ∃ s : zbW, ds = zeV s ∧ prepR s := by
  obtain ⟨d1, ds, rfl, h1, h⟩ := zaB h
  obtain ⟨d2, ds, rfl, h2, h⟩ := zaB h
  obtain ⟨d3, ds, rfl, h3, h⟩ := zaB h
  obtain ⟨d4, ds, rfl, h4, h⟩ := zaB h
  obtain ⟨d5, ds, rfl, h5, h⟩ := zaB h
  obtain ⟨d6, ds, rfl, h6, h⟩ := zaB h
  obtain ⟨d7, ds, rfl, h7, h⟩ := zaB h
  obtain rfl := zlY h
  obtain ⟨a1, rfl, k1⟩ := zdo h1
  obtain ⟨a2, rfl, k2⟩ := zdo h2
  obtain ⟨a3, rfl, k3⟩ := zdo h3
  obtain ⟨a4, rfl, k4⟩ := zdo h4
  obtain ⟨a5, rfl, k5⟩ := zdo h5
  obtain ⟨a6, rfl⟩ := zko h6 (fun e he => (zwf he).imp fun _ h => h.1)
  obtain ⟨a7, rfl⟩ := zko h7 (fun e he => (dec_signed he).imp fun _ h => h.1)
  exact ⟨⟨a1, a2, a3, a4, a5, a6, a7⟩, rfl, k1, k2, k3, k4, k5⟩
theorem dec_change {ds : List D} (h : zeR tyChange ds) : ∃ s : zaa, ds = zbm s ∧ zmE s := by
  obtain ⟨d1, ds, rfl, h1, h⟩ := zaB h
  obtain ⟨d2, ds, rfl, h2, h⟩ := zaB h
  obtain ⟨d3, ds, rfl, h3, h⟩ := zaB h
  obtain ⟨d4, ds, rfl, h4, h⟩ := zaB h
  obtain ⟨d5, ds, rfl, h5, h⟩ := zaB h
  obtain ⟨d6, ds, rfl, h6, h⟩ := zaB h
  obtain ⟨d7, ds, rfl, h7, h⟩ := zaB h
  obtain ⟨d8, ds, rfl, h8, h⟩ := zaB h
  obtain rfl := zlY h
  obtain ⟨a1, rfl, k1⟩ := zdo h1
  obtain ⟨a2, rfl, k2⟩ := zdo h2
  obtain ⟨a3, rfl, k3⟩ := zdo h3
  obtain ⟨a4, rfl, k4⟩ := zdo h4
  obtain ⟨a5, rfl⟩ := zko h5 (fun e he => (zwf he).imp fun _ h => h.1)
  obtain ⟨a6, rfl, k6⟩ := zva h6 (fun e he => dec_prep he)
  obtain ⟨a7, rfl, k7⟩ := zdo h7
  obtain ⟨a8, rfl, k8⟩ := zdo h8
  exact ⟨⟨a1, a2, ⟨a3, a4, a5⟩, a6, a7, a8⟩, rfl, k1, k2, k3, k4, k6, k7, k8⟩
end Go.AW

/- What a new view goes on with. No program in sight. -/
set_option linter.unusedSimpArgs false
namespace Go.AW

def zbK (f : Int) : Int := if f < 1 ∨ f > 4 then 120 else 0
def zcJ (n f : Int) : Int := if f < 1 ∨ f > 4 then 0 else n * f + 1
def zql (cs : List zaa) : Nat → Int
  | 0 => -1
  | k + 1 => match cs[k]? with | some c => c.src | none => 0
def srcOk (f : Int) (cs : List zaa) (k : Nat) : Bool := match cs[k]? with | some c => decide (zql cs k < c.src ∧ c.src < zcJ 3 f) | none => true
def zrX (f : Int) (cs : List zaa) (k : Nat) : Bool := (List.range k).all (srcOk f cs)
def mayF (f view : Int) (cs : List zaa) : Int :=
  if zbK f ≠ 0 then zbK f else if view < 1 ∨ view > 9007199254740992 then 1 else if zrX f cs cs.length = false then 1 else if cs.length < zcJ 2 f then 160 else 0
theorem srcsOk_succ (f : Int) (cs : List zaa) (k : Nat) : zrX f cs (k + 1) = (zrX f cs k && srcOk f cs k) := by
  simp [zrX, List.range_succ]
theorem srcsOk_bad {f : Int} {cs : List zaa} {k : Nat} (hk : k < cs.length) (h : srcOk f cs k = false) : zrX f cs cs.length = false := by
  rw [zrX, List.all_eq_false]
  exact ⟨k, by simpa using hk, by simp [h]⟩
def zoO : zek := ⟨0, 0, []⟩
def maxI (a b : Int) : Int := if b > a then b else a
def zpv (b : zek) (c : zaa) : zek := if c.cert.seq > b.seq then c.cert else b
def bestOf (cs : List zaa) : zek := match cs with | [] => zoO | c :: _ => c.cert
def zpw (cs : List zaa) (k : Nat) : zek := (cs.take k).foldl zpv (bestOf cs)
def zeU (cs : List zaa) (k : Nat) : List zbW := ((cs.take k).map (·.above)).flatten
def zdJ (L : List zbW) : Int := L.foldl (fun m p => maxI m p.seq) 0
def ziw (s : Int) (o : Option zbW) (p : zbW) : Option zbW := if p.seq = s then (match o with | none => some p | some q => if p.view > q.view then some p else some q) else o
def latF (L : List zbW) (s : Int) : Option zbW := L.foldl (ziw s) none
def batchOf (o : Option zbW) : List zu := match o with | some p => p.batch | none => []
def entAt (view : Int) (L : List zbW) (base : Int) (n : Nat) : ziN := ⟨view, base + n + 1, batchOf (latF L (base + n + 1)), 0, 0⟩
def zpa (view : Int) (L : List zbW) (base : Int) (n : Nat) : List ziN := (List.range n).map (entAt view L base)
def manyF (great base : Int) : Nat := min (great - base).toNat 8
def selF (f view : Int) (cs : List zaa) : zek × List ziN × Int :=
  if mayF f view cs ≠ 0 then (zoO, [], mayF f view cs) else
    let b := zpw cs cs.length
    let L := zeU cs cs.length
    if b.seq < 0 ∨ zdJ L ≤ b.seq then (b, [], 0) else (b, zpa view L b.seq (manyF (zdJ L) b.seq), 0)

theorem zvl {cs : List zaa} {k : Nat} {c : zaa} (h : cs[k]? = some c) : zpw cs (k + 1) = zpv (zpw cs k) c := by
  simp only [zpw, List.take_add_one, h, Option.toList_some, List.foldl_append, List.foldl_cons, List.foldl_nil]
theorem prepsOf_succ {cs : List zaa} {k : Nat} {c : zaa} (h : cs[k]? = some c) : zeU cs (k + 1) = zeU cs k ++ c.above := by
  simp [zeU, List.take_add_one, h]
theorem greatF_snoc (L : List zbW) (p : zbW) : zdJ (L ++ [p]) = maxI (zdJ L) p.seq := by simp [zdJ]
theorem latF_snoc (L : List zbW) (p : zbW) (s : Int) : latF (L ++ [p]) s = ziw s (latF L s) p := by simp [latF]
theorem greatF_nn (L : List zbW) : 0 ≤ zdJ L := by
  have : ∀ (L : List zbW) (m : Int), 0 ≤ m → 0 ≤ L.foldl (fun m p => maxI m p.seq) m := by
    intro L
    induction L with
    | nil => intro m h; exact h
    | cons p L ih => intro m h; exact ih _ (by simp only [maxI]; split <;> omega)
  exact this L 0 (by omega)
theorem latF_seq {L : List zbW} {s : Int} {p : zbW} (h : latF L s = some p) : p.seq = s ∧ p ∈ L := by
  have : ∀ (L : List zbW) (o : Option zbW), L.foldl (ziw s) o = some p → (o = some p) ∨ (p.seq = s ∧ p ∈ L) := by
    intro L
    induction L with
    | nil => intro o h; exact .inl h
    | cons q L ih =>
      intro o h
      rcases ih _ h with h | h
      · unfold ziw at h
        by_cases e : q.seq = s
        · rw [if_pos e] at h
          cases o with
          | none => simp only [Option.some.injEq] at h; subst h; exact .inr ⟨e, .head _⟩
          | some r =>
            simp only at h
            split at h
            · simp only [Option.some.injEq] at h; subst h; exact .inr ⟨e, .head _⟩
            · exact .inl h
        · rw [if_neg e] at h; exact .inl h
      · exact .inr ⟨h.1, .tail _ h.2⟩
  rcases this L none h with h | h
  · cases h
  · exact h
theorem greatF_lt {L : List zbW} {m : Int} (hm : 0 ≤ m) (h : ∀ p ∈ L, p.seq ≤ m) : zdJ L ≤ m := by
  have : ∀ (L : List zbW) (a : Int), a ≤ m → (∀ p ∈ L, p.seq ≤ m) → L.foldl (fun m p => maxI m p.seq) a ≤ m := by
    intro L
    induction L with
    | nil => intro a ha _; exact ha
    | cons p L ih => intro a ha h; exact ih _ (by have := h p (.head _); simp only [maxI]; split <;> omega) (fun p hp => h p (.tail _ hp))
  exact this L 0 hm h
theorem entsF_snoc (view : Int) (L : List zbW) (base : Int) (n : Nat) : zpa view L base n ++ [entAt view L base n] = zpa view L base (n + 1) := by
  simp [zpa, List.range_succ]
theorem ztm {cs : List zaa} : ∀ {k : Nat}, k ≤ cs.length → cs ≠ [] → ∃ c ∈ cs, zpw cs k = c.cert
  | 0, _, h => by
    cases cs with
    | nil => exact absurd rfl h
    | cons c cs => exact ⟨c, .head _, rfl⟩
  | k + 1, hk, h => by
    obtain ⟨c, hc, e⟩ := ztm (k := k) (by omega) h
    have hx : cs[k]? = some cs[k] := by simp [show k < cs.length by omega]
    rw [zvl hx, zpv]
    split
    · exact ⟨_, List.getElem_mem _, rfl⟩
    · exact ⟨c, hc, e⟩
end Go.AW
