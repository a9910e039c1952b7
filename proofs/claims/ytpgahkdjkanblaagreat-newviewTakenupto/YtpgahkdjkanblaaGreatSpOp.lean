/- Operations: what the document says of them. No program in sight. -/
import Derived.Test.YtpgahkdjkanblaaGreatSh
import Derived.Test.YtpgahkdjkanblaaGreatAwEnd
import Derived.Test.YtpgahkdjkanblaaGreatAwDraw2
set_option linter.all false
namespace Go.AW

structure TOp where
  kind : Int
  topic : List UInt8
  group : List UInt8
  offset : Int
  recs : List (List UInt8)
deriving DecidableEq

def zgh (rs : List (List UInt8)) : List (List D) := rs.map fun r => [D.slice (bcs r)]
def opA (o : TOp) : AV := .agg [.d (.int .i64 o.kind), .d (.str o.topic), .d (.str o.group), .d (.int .i64 o.offset), .d (.slice (zgh o.recs))]
def noOp : TOp := ⟨0, [], [], 0, []⟩

theorem zw (rs : List (List UInt8)) : (zgh rs).length = rs.length := by simp [zgh]
theorem zhG {rs : List (List UInt8)} {k : Nat} {r : List UInt8} (h : rs[k]? = some r) : (zgh rs)[k]? = some [D.slice (bcs r)] := by simp [zgh, h]

def zos (o : TOp) : TOp :=
  if o.kind = 1 then { noOp with kind := o.kind, topic := o.topic }
  else if o.kind = 2 then { noOp with kind := o.kind, topic := o.topic, recs := o.recs }
  else if o.kind = 3 then { noOp with kind := o.kind, topic := o.topic, group := o.group, offset := o.offset }
  else if o.kind = 4 then { noOp with kind := o.kind, topic := o.topic, offset := o.offset }
  else { noOp with kind := o.kind }
def zry (o : TOp) : Bool := decide (0 ≤ o.kind ∧ o.kind ≤ 4)
def zeD (name : List UInt8 → Bool) (o : TOp) : Int :=
  if zry o = false ∨ o ≠ zos o then 60
  else if o.kind ≠ 0 ∧ name o.topic = false then 61
  else if o.kind = 3 ∧ name o.group = false then 61
  else if o.kind = 2 ∧ (o.recs.length < 1 ∨ o.recs.length > 4 ∨ o.recs.any (fun r => decide (r.length > 64)) = true) then 62
  else if o.offset < 0 ∨ o.offset > 9007199254740992 then 60
  else 0

def ztu (x : List UInt8) : List UInt8 := zdv x.length ++ x
def zrO (rs : List (List UInt8)) : List UInt8 := (rs.map ztu).flatten
def opB (o : TOp) : List UInt8 :=
  zdv o.kind.toNat ++ ((if o.kind ≠ 0 then ztu o.topic else []) ++
    (if o.kind = 2 then zdv o.recs.length ++ zrO o.recs else if o.kind = 3 then ztu o.group ++ zdv o.offset.toNat else if o.kind = 4 then zdv o.offset.toNat else []))
theorem opB_0 {o : TOp} (h : o.kind = 0) : opB o = zdv o.kind.toNat := by simp [opB, h]
theorem opB_1 {o : TOp} (h : o.kind = 1) : opB o = zdv o.kind.toNat ++ (zdv o.topic.length ++ o.topic) := by simp [opB, h, ztu]
theorem opB_2 {o : TOp} (h : o.kind = 2) : opB o = zdv o.kind.toNat ++ (zdv o.topic.length ++ (o.topic ++ (zdv o.recs.length ++ zrO o.recs))) := by simp [opB, h, ztu]
theorem opB_3 {o : TOp} (h : o.kind = 3) : opB o = zdv o.kind.toNat ++ (zdv o.topic.length ++ (o.topic ++ (zdv o.group.length ++ (o.group ++ zdv o.offset.toNat)))) := by simp [opB, h, ztu]
theorem opB_4 {o : TOp} (h : o.kind = 4) : opB o = zdv o.kind.toNat ++ (zdv o.topic.length ++ (o.topic ++ zdv o.offset.toNat)) := by simp [opB, h, ztu]
def zmB (o : TOp) : Nat := o.topic.length + o.group.length + (o.recs.map fun r => r.length + 10).sum
theorem zli {x : List UInt8} (h : x.length < 18446744073709551616) : (ztu x).length ≤ x.length + 10 := by
  have := zC h
  simp only [ztu, List.length_append]; omega
theorem znT (rs : List (List UInt8)) (h : (rs.map fun r => r.length + 10).sum ≤ 1073741824) : ∀ k, (zrO (rs.take k)).length ≤ (rs.map fun r => r.length + 10).sum := by
  have key : ∀ l : List (List UInt8), (l.map fun r => r.length + 10).sum ≤ 1073741824 → (zrO l).length ≤ (l.map fun r => r.length + 10).sum := by
    intro l
    induction l with
    | nil => simp [zrO]
    | cons r l ih =>
      intro h
      simp only [List.map_cons, List.sum_cons] at h ⊢
      have h1 := ih (by omega)
      have h2 := zli (x := r) (by omega)
      simp only [zrO, List.map_cons, List.flatten_cons, List.length_append] at h1 ⊢
      omega
  have sum_take : ∀ (l : List (List UInt8)) k, ((l.take k).map fun r => r.length + 10).sum ≤ (l.map fun r => r.length + 10).sum := by
    intro l
    induction l with
    | nil => simp
    | cons r l ih =>
      intro k
      cases k with
      | zero => simp
      | succ k => simp only [List.take_succ_cons, List.map_cons, List.sum_cons]; have := ih k; omega
  intro k
  have h1 := sum_take rs k
  have := key (rs.take k) (by omega)
  omega
theorem recsB_snoc {rs : List (List UInt8)} {k : Nat} {r : List UInt8} (h : rs[k]? = some r) : zrO (rs.take (k + 1)) = zrO (rs.take k) ++ ztu r := by
  rw [List.take_add_one, h]; simp [zrO]
theorem zor (rs : List (List UInt8)) : rs.length ≤ (rs.map fun r => r.length + 10).sum := by
  induction rs with
  | nil => simp
  | cons r l ih => simp only [List.map_cons, List.sum_cons, List.length_cons]; omega
theorem rec_le {rs : List (List UInt8)} {r : List UInt8} (h : r ∈ rs) : r.length ≤ (rs.map fun r => r.length + 10).sum := by
  induction rs with
  | nil => cases h
  | cons x l ih =>
    simp only [List.map_cons, List.sum_cons]
    rcases List.mem_cons.1 h with rfl | h
    · omega
    · have := ih h; omega
theorem zuV {name : List UInt8 → Bool} {o : TOp} (h : zeD name o = 0) : 0 ≤ o.kind ∧ o.kind ≤ 4 ∧ 0 ≤ o.offset ∧ o.offset ≤ 9007199254740992 ∧ o = zos o := by
  unfold zeD zry at h
  grind
theorem zed {α : Type} {a b : List α} (hl : a.length = b.length) {k : Nat} (hk : k = a.length) (h : a.take k = b.take k) : a = b := by
  rw [hk, List.take_length, hl, List.take_length] at h
  exact h
theorem zcG {α : Type} {a b : List α} {k : Nat} {x y : α} (ha : a[k]? = some x) (hb : b[k]? = some y) (h : a.take k = b.take k) (e : x = y) : a.take (k + 1) = b.take (k + 1) := by
  rw [List.take_add_one, List.take_add_one, ha, hb, h, e]
end Go.AW

/- Arguments of known types as data of the document. -/
set_option linter.unusedSimpArgs false
namespace Go.AW

theorem list_as {α β : Type} {f : α → β} : ∀ {l : List β}, (∀ e ∈ l, ∃ a, e = f a) → ∃ as_ : List α, l = as_.map f
  | [], _ => ⟨[], rfl⟩
  | e :: l, h => by
    obtain ⟨a, rfl⟩ := h e List.mem_cons_self
    obtain ⟨as_, rfl⟩ := list_as (l := l) (fun x hx => h x (List.mem_cons_of_mem _ hx))
    exact ⟨a :: as_, rfl⟩
theorem fits1 {t : Ty} {d : D} (h : zfD [t] [d]) : zmy t d := h.2 0 t d rfl rfl
theorem one_of {t : Ty} {ds : List D} (h : zfD [t] ds) : ∃ d, ds = [d] ∧ zmy t d := by
  match ds, h with
  | [d], h => exact ⟨d, rfl, fits1 h⟩
theorem zaG {t : Ty} {ts : List Ty} {ds : List D} (h : zfD (t :: ts) ds) : ∃ d ds', ds = d :: ds' ∧ zmy t d ∧ zfD ts ds' := by
  match ds, h with
  | d :: ds', h => exact ⟨d, ds', rfl, h.2 0 t d rfl rfl, by have := h.1; simpa using this, fun i t d h1 h2 => h.2 (i + 1) t d h1 h2⟩
theorem zmC {ds : List D} (h : zfD [] ds) : ds = [] := by
  have := h.1; simpa using this
theorem dec_int {k : IntKind} {d : D} (h : zmy (.int k) d) : ∃ n, d = .int k n ∧ (Lit.int k n).wf = true := by cases h with | int _ n h => exact ⟨n, rfl, h⟩
theorem zdR {d : D} (h : zmy (.int .i64) d) : ∃ n, d = .int .i64 n ∧ -9223372036854775808 ≤ n ∧ n ≤ 9223372036854775807 := by
  obtain ⟨n, hd, h2⟩ := dec_int h
  exact ⟨n, hd, by simpa [Lit.wf, IntKind.min, IntKind.max, IntKind.signed, IntKind.bits] using h2⟩
theorem dec_u8 {d : D} (h : zmy (.int .u8) d) : ∃ b : UInt8, d = .int .u8 b.toNat := by
  obtain ⟨n, hd, h2⟩ := dec_int h
  have h' : 0 ≤ n ∧ n ≤ 255 := by simpa [Lit.wf, IntKind.min, IntKind.max, IntKind.signed, IntKind.bits] using h2
  exact ⟨UInt8.ofNat n.toNat, by rw [hd, zqJ (by omega)]; congr 1; omega⟩
theorem dec_str {d : D} (h : zmy .str d) : ∃ s, d = .str s := by cases h with | str s _ => exact ⟨s, rfl⟩
theorem zkQ {α : Type} {ts : List Ty} {d : D} {f : α → List D} (h : zmy (.slice ts) d) (hf : ∀ e, zfD ts e → ∃ a, e = f a) : ∃ as_ : List α, d = .slice (as_.map f) := by
  cases h with
  | slice _ es h1 h2 h3 =>
    obtain ⟨as_, rfl⟩ := list_as (f := f) (fun e he => hf e ⟨h2 e he, h3 e he⟩)
    exact ⟨as_, rfl⟩
theorem dec_bytes {d : D} (h : zmy (.slice [.int .u8]) d) : ∃ bs, d = .slice (bcs bs) := zkQ h fun e he => by
  obtain ⟨d, rfl, h⟩ := one_of he
  obtain ⟨b, rfl⟩ := dec_u8 h
  exact ⟨b, rfl⟩
theorem dec_recs {d : D} (h : zmy (.slice [.slice [.int .u8]]) d) : ∃ rs, d = .slice (zgh rs) := zkQ h fun e he => by
  obtain ⟨d, rfl, h⟩ := one_of he
  obtain ⟨b, rfl⟩ := dec_bytes h
  exact ⟨b, rfl⟩
theorem bulk_bcs (bs : List UInt8) : zeO (bcs bs) = bs.length := by
  induction bs with
  | nil => rfl
  | cons b bs ih => simp only [bcs, List.map_cons, zdc, zeO, zer, zhU, List.length_cons] at ih ⊢; omega
theorem bulk_recs (rs : List (List UInt8)) : zeO (zgh rs) = (rs.map fun r => r.length + 1).sum := by
  induction rs with
  | nil => rfl
  | cons r rs ih => simp only [zgh, List.map_cons, zeO, zer, zhU, List.sum_cons, bulk_bcs] at ih ⊢; omega
def znV (n : Int) : Prop := -9223372036854775808 ≤ n ∧ n ≤ 9223372036854775807
def opR (o : TOp) : Prop := znV o.kind ∧ znV o.offset
def opD (o : TOp) : List D := [.int .i64 o.kind, .str o.topic, .str o.group, .int .i64 o.offset, .slice (zgh o.recs)]
theorem opSz_bulk (o : TOp) : zmB o ≤ 10 * zer (opD o) := by
  have : (o.recs.map fun r => r.length + 10).sum ≤ 10 * (o.recs.map fun r => r.length + 1).sum := by
    induction o.recs with
    | nil => simp
    | cons r rs ih => simp only [List.map_cons, List.sum_cons]; omega
  simp only [zmB, opD, zer, zhU, bulk_recs]
  omega
end Go.AW

/- Requests, batches, certificates, view-changes: what the document holds, as data. No program in sight. -/
set_option linter.unusedSimpArgs false
namespace Go.AW

structure zt where
  key : Int
  dig : Int
deriving DecidableEq
structure zu where
  client : Int
  time : Int
  op : TOp
  key : Int
  dig : Int
deriving DecidableEq
structure zca where
  view : Int
  seq : Int
  dig : Int
  fkey : Int
  fdig : Int
  signs : List zt
  batch : List zu
deriving DecidableEq
structure zfB where
  seq : Int
  dig : Int
  signs : List zt
deriving DecidableEq
structure zO where
  view : Int
  src : Int
  cert : zfB
  above : List zca
  key : Int
  dig : Int
deriving DecidableEq
structure zaI where
  view : Int
  seq : Int
  batch : List zu
  key : Int
  dig : Int
deriving DecidableEq

def zgH (s : zt) : List D := [.int .i64 s.key, .int .i64 s.dig]
abbrev zab (l : List zt) : List (List D) := l.map zgH
def zbl (x : zu) : List D := [.int .i64 x.client, .int .i64 x.time, .int .i64 x.op.kind, .str x.op.topic, .str x.op.group, .int .i64 x.op.offset, .slice (zgh x.op.recs), .int .i64 x.key, .int .i64 x.dig]
abbrev zbD (b : List zu) : List (List D) := b.map zbl
def zgI (p : zca) : List D := [.int .i64 p.view, .int .i64 p.seq, .int .i64 p.dig, .int .i64 p.fkey, .int .i64 p.fdig, .slice (zab p.signs), .slice (zbD p.batch)]
abbrev zfG (l : List zca) : List (List D) := l.map zgI
def zbH (c : zO) : List D := [.int .i64 c.view, .int .i64 c.src, .int .i64 c.cert.seq, .int .i64 c.cert.dig, .slice (zab c.cert.signs), .slice (zfG c.above), .int .i64 c.key, .int .i64 c.dig]
abbrev zaL (l : List zO) : List (List D) := l.map zbH
def zdC (x : zaI) : List D := [.int .i64 x.view, .int .i64 x.seq, .slice (zbD x.batch), .int .i64 x.key, .int .i64 x.dig]
abbrev zah (l : List zaI) : List (List D) := l.map zdC

theorem zfS {α : Type} {f : α → List D} {n : Nat} (hf : ∀ a, (f a).length = n) (l : List α) : ∀ e ∈ l.map f, e.length = n := by
  intro e he
  obtain ⟨a, _, rfl⟩ := List.mem_map.1 he
  exact hf a
theorem zrL (l : List zt) : ∀ e ∈ zab l, e.length = 2 := zfS (f := zgH) (fun _ => rfl) l
theorem batch_nine (l : List zu) : ∀ e ∈ zbD l, e.length = 9 := zfS (f := zbl) (fun _ => rfl) l
theorem preps_seven (l : List zca) : ∀ e ∈ zfG l, e.length = 7 := zfS (f := zgI) (fun _ => rfl) l
theorem changes_eight (l : List zO) : ∀ e ∈ zaL l, e.length = 8 := zfS (f := zbH) (fun _ => rfl) l
theorem entries_five (l : List zaI) : ∀ e ∈ zah l, e.length = 5 := zfS (f := zdC) (fun _ => rfl) l
theorem zal {α : Type} {f : α → List D} {l : List α} {k : Nat} {x : α} (h : l[k]? = some x) : (l.map f)[k]? = some (f x) := by simp [h]
theorem map_snoc {α : Type} {f : α → List D} {l : List α} {k : Nat} {x : α} (h : l[k]? = some x) : (l.take k).map f ++ [f x] = (l.take (k + 1)).map f := by
  rw [List.take_add_one, h]; simp

def tySign : List Ty := [.int .i64, .int .i64]
def tySigned : List Ty := [.int .i64, .int .i64, .int .i64, .str, .str, .int .i64, .slice [.slice [.int .u8]], .int .i64, .int .i64]
def tyPrep : List Ty := [.int .i64, .int .i64, .int .i64, .int .i64, .int .i64, .slice tySign, .slice tySigned]
def tyChange : List Ty := [.int .i64, .int .i64, .int .i64, .int .i64, .slice tySign, .slice tyPrep, .int .i64, .int .i64]
def signR (s : zt) : Prop := znV s.key ∧ znV s.dig
def signedR (x : zu) : Prop := znV x.client ∧ znV x.time ∧ opR x.op ∧ znV x.key ∧ znV x.dig
def prepR (p : zca) : Prop := znV p.view ∧ znV p.seq ∧ znV p.dig ∧ znV p.fkey ∧ znV p.fdig
def zik (c : zO) : Prop := znV c.view ∧ znV c.src ∧ znV c.cert.seq ∧ znV c.cert.dig ∧ (∀ p ∈ c.above, prepR p) ∧ znV c.key ∧ znV c.dig
theorem ztZ {α : Type} {ts : List Ty} {d : D} {f : α → List D} {R : α → Prop} (h : zmy (.slice ts) d) (hf : ∀ e, zfD ts e → ∃ a, e = f a ∧ R a) : ∃ as_ : List α, d = .slice (as_.map f) ∧ ∀ a ∈ as_, R a := by
  cases h with
  | slice _ es h1 h2 h3 =>
    have : ∀ l : List (List D), (∀ e ∈ l, zfD ts e) → ∃ as_ : List α, l = as_.map f ∧ ∀ a ∈ as_, R a := by
      intro l
      induction l with
      | nil => intro _; exact ⟨[], rfl, by simp⟩
      | cons e l ih =>
        intro hl
        obtain ⟨a, rfl, ha⟩ := hf e (hl e (.head _))
        obtain ⟨as_, rfl, has⟩ := ih fun e he => hl e (.tail _ he)
        exact ⟨a :: as_, rfl, by simpa using ⟨ha, has⟩⟩
    obtain ⟨as_, rfl, h4⟩ := this es (fun e he => ⟨h2 e he, h3 e he⟩)
    exact ⟨as_, rfl, h4⟩
theorem zuS {ds : List D} (h : zfD tySign ds) : ∃ s : zt, ds = zgH s ∧ signR s := by
  obtain ⟨d1, ds, rfl, h1, h⟩ := zaG h
  obtain ⟨d2, ds, rfl, h2, h⟩ := zaG h
  obtain rfl := zmC h
  obtain ⟨a, rfl, ha⟩ := zdR h1
  obtain ⟨b, rfl, hb⟩ := zdR h2
  exact ⟨⟨a, b⟩, rfl, ha, hb⟩
theorem dec_signed {ds : List D} (h : zfD tySigned ds) : ∃ s : zu, ds = zbl s ∧ signedR s := by
  obtain ⟨d1, ds, rfl, h1, h⟩ := zaG h
  obtain ⟨d2, ds, rfl, h2, h⟩ := zaG h
  obtain ⟨d3, ds, rfl, h3, h⟩ := zaG h
  obtain ⟨d4, ds, rfl, h4, h⟩ := zaG h
  obtain ⟨d5, ds, rfl, h5, h⟩ := zaG h
  obtain ⟨d6, ds, rfl, h6, h⟩ := zaG h
  obtain ⟨d7, ds, rfl, h7, h⟩ := zaG h
  obtain ⟨d8, ds, rfl, h8, h⟩ := zaG h
  obtain ⟨d9, ds, rfl, h9, h⟩ := zaG h
  obtain rfl := zmC h
  obtain ⟨a1, rfl, k1⟩ := zdR h1
  obtain ⟨a2, rfl, k2⟩ := zdR h2
  obtain ⟨a3, rfl, k3⟩ := zdR h3
  obtain ⟨a4, rfl⟩ := dec_str h4
  obtain ⟨a5, rfl⟩ := dec_str h5
  obtain ⟨a6, rfl, k6⟩ := zdR h6
  obtain ⟨a7, rfl⟩ := dec_recs h7
  obtain ⟨a8, rfl, k8⟩ := zdR h8
  obtain ⟨a9, rfl, k9⟩ := zdR h9
  exact ⟨⟨a1, a2, ⟨a3, a4, a5, a6, a7⟩, a8, a9⟩, rfl, k1, k2, ⟨k3, k6⟩, k8, k9⟩
theorem dec_prep {ds : List D} (h : zfD tyPrep ds) : ∃ s : zca, ds = zgI s ∧ prepR s := by
  obtain ⟨d1, ds, rfl, h1, h⟩ := zaG h
  obtain ⟨d2, ds, rfl, h2, h⟩ := zaG h
  obtain ⟨d3, ds, rfl, h3, h⟩ := zaG h
  obtain ⟨d4, ds, rfl, h4, h⟩ := zaG h
  obtain ⟨d5, ds, rfl, h5, h⟩ := zaG h
  obtain ⟨d6, ds, rfl, h6, h⟩ := zaG h
  obtain ⟨d7, ds, rfl, h7, h⟩ := zaG h
  obtain rfl := zmC h
  obtain ⟨a1, rfl, k1⟩ := zdR h1
  obtain ⟨a2, rfl, k2⟩ := zdR h2
  obtain ⟨a3, rfl, k3⟩ := zdR h3
  obtain ⟨a4, rfl, k4⟩ := zdR h4
  obtain ⟨a5, rfl, k5⟩ := zdR h5
  obtain ⟨a6, rfl⟩ := zkQ h6 (fun e he => (zuS he).imp fun _ h => h.1)
  obtain ⟨a7, rfl⟩ := zkQ h7 (fun e he => (dec_signed he).imp fun _ h => h.1)
  exact ⟨⟨a1, a2, a3, a4, a5, a6, a7⟩, rfl, k1, k2, k3, k4, k5⟩
theorem dec_change {ds : List D} (h : zfD tyChange ds) : ∃ s : zO, ds = zbH s ∧ zik s := by
  obtain ⟨d1, ds, rfl, h1, h⟩ := zaG h
  obtain ⟨d2, ds, rfl, h2, h⟩ := zaG h
  obtain ⟨d3, ds, rfl, h3, h⟩ := zaG h
  obtain ⟨d4, ds, rfl, h4, h⟩ := zaG h
  obtain ⟨d5, ds, rfl, h5, h⟩ := zaG h
  obtain ⟨d6, ds, rfl, h6, h⟩ := zaG h
  obtain ⟨d7, ds, rfl, h7, h⟩ := zaG h
  obtain ⟨d8, ds, rfl, h8, h⟩ := zaG h
  obtain rfl := zmC h
  obtain ⟨a1, rfl, k1⟩ := zdR h1
  obtain ⟨a2, rfl, k2⟩ := zdR h2
  obtain ⟨a3, rfl, k3⟩ := zdR h3
  obtain ⟨a4, rfl, k4⟩ := zdR h4
  obtain ⟨a5, rfl⟩ := zkQ h5 (fun e he => (zuS he).imp fun _ h => h.1)
  obtain ⟨a6, rfl, k6⟩ := ztZ h6 (fun e he => dec_prep he)
  obtain ⟨a7, rfl, k7⟩ := zdR h7
  obtain ⟨a8, rfl, k8⟩ := zdR h8
  exact ⟨⟨a1, a2, ⟨a3, a4, a5⟩, a6, a7, a8⟩, rfl, k1, k2, k3, k4, k6, k7, k8⟩
end Go.AW

/- What a new view goes on with. No program in sight. -/
set_option linter.unusedSimpArgs false
namespace Go.AW

def zci (f : Int) : Int := if f < 1 ∨ f > 4 then 120 else 0
def zaB (n f : Int) : Int := if f < 1 ∨ f > 4 then 0 else n * f + 1
def zlj (cs : List zO) : Nat → Int
  | 0 => -1
  | k + 1 => match cs[k]? with | some c => c.src | none => 0
def zuu (f : Int) (cs : List zO) (k : Nat) : Bool := match cs[k]? with | some c => decide (zlj cs k < c.src ∧ c.src < zaB 3 f) | none => true
def zmD (f : Int) (cs : List zO) (k : Nat) : Bool := (List.range k).all (zuu f cs)
def zmw (f view : Int) (cs : List zO) : Int :=
  if zci f ≠ 0 then zci f else if view < 1 ∨ view > 9007199254740992 then 1 else if zmD f cs cs.length = false then 1 else if cs.length < zaB 2 f then 160 else 0
theorem srcsOk_succ (f : Int) (cs : List zO) (k : Nat) : zmD f cs (k + 1) = (zmD f cs k && zuu f cs k) := by
  simp [zmD, List.range_succ]
theorem srcsOk_bad {f : Int} {cs : List zO} {k : Nat} (hk : k < cs.length) (h : zuu f cs k = false) : zmD f cs cs.length = false := by
  rw [zmD, List.all_eq_false]
  exact ⟨k, by simpa using hk, by simp [h]⟩
def ziU : zfB := ⟨0, 0, []⟩
def maxI (a b : Int) : Int := if b > a then b else a
def zpF (b : zfB) (c : zO) : zfB := if c.cert.seq > b.seq then c.cert else b
def bestOf (cs : List zO) : zfB := match cs with | [] => ziU | c :: _ => c.cert
def zmx (cs : List zO) (k : Nat) : zfB := (cs.take k).foldl zpF (bestOf cs)
def zee (cs : List zO) (k : Nat) : List zca := ((cs.take k).map (·.above)).flatten
def zdU (L : List zca) : Int := L.foldl (fun m p => maxI m p.seq) 0
def zjb (s : Int) (o : Option zca) (p : zca) : Option zca := if p.seq = s then (match o with | none => some p | some q => if p.view > q.view then some p else some q) else o
def zuK (L : List zca) (s : Int) : Option zca := L.foldl (zjb s) none
def zqM (o : Option zca) : List zu := match o with | some p => p.batch | none => []
def entAt (view : Int) (L : List zca) (base : Int) (n : Nat) : zaI := ⟨view, base + n + 1, zqM (zuK L (base + n + 1)), 0, 0⟩
def zks (view : Int) (L : List zca) (base : Int) (n : Nat) : List zaI := (List.range n).map (entAt view L base)
def manyF (great base : Int) : Nat := min (great - base).toNat 8
def zga (f view : Int) (cs : List zO) : zfB × List zaI × Int :=
  if zmw f view cs ≠ 0 then (ziU, [], zmw f view cs) else
    let b := zmx cs cs.length
    let L := zee cs cs.length
    if b.seq < 0 ∨ zdU L ≤ b.seq then (b, [], 0) else (b, zks view L b.seq (manyF (zdU L) b.seq), 0)

theorem zuf {cs : List zO} {k : Nat} {c : zO} (h : cs[k]? = some c) : zmx cs (k + 1) = zpF (zmx cs k) c := by
  simp only [zmx, List.take_add_one, h, Option.toList_some, List.foldl_append, List.foldl_cons, List.foldl_nil]
theorem prepsOf_succ {cs : List zO} {k : Nat} {c : zO} (h : cs[k]? = some c) : zee cs (k + 1) = zee cs k ++ c.above := by
  simp [zee, List.take_add_one, h]
theorem greatF_snoc (L : List zca) (p : zca) : zdU (L ++ [p]) = maxI (zdU L) p.seq := by simp [zdU]
theorem latF_snoc (L : List zca) (p : zca) (s : Int) : zuK (L ++ [p]) s = zjb s (zuK L s) p := by simp [zuK]
theorem greatF_nn (L : List zca) : 0 ≤ zdU L := by
  have : ∀ (L : List zca) (m : Int), 0 ≤ m → 0 ≤ L.foldl (fun m p => maxI m p.seq) m := by
    intro L
    induction L with
    | nil => intro m h; exact h
    | cons p L ih => intro m h; exact ih _ (by simp only [maxI]; split <;> omega)
  exact this L 0 (by omega)
theorem zuJ {L : List zca} {s : Int} {p : zca} (h : zuK L s = some p) : p.seq = s ∧ p ∈ L := by
  have : ∀ (L : List zca) (o : Option zca), L.foldl (zjb s) o = some p → (o = some p) ∨ (p.seq = s ∧ p ∈ L) := by
    intro L
    induction L with
    | nil => intro o h; exact .inl h
    | cons q L ih =>
      intro o h
      rcases ih _ h with h | h
      · unfold zjb at h
        by_cases e : q.seq = s
        · rw [if_pos e] at h
          cases o with
          | none => simp only [Option.some.injEq] at h; subst h; exact .inr ⟨e, .head _⟩
          | some r =>
            simp only at h
            split at h
            · simp only [Option.some.injEq] at h; subst h; exact .inr ⟨e, .head _⟩
            · exact .inl h
        · rw [if_neg e] at h; exact .inl h
      · exact .inr ⟨h.1, .tail _ h.2⟩
  rcases this L none h with h | h
  · cases h
  · exact h
theorem greatF_lt {L : List zca} {m : Int} (hm : 0 ≤ m) (h : ∀ p ∈ L, p.seq ≤ m) : zdU L ≤ m := by
  have : ∀ (L : List zca) (a : Int), a ≤ m → (∀ p ∈ L, p.seq ≤ m) → L.foldl (fun m p => maxI m p.seq) a ≤ m := by
    intro L
    induction L with
    | nil => intro a ha _; exact ha
    | cons p L ih => intro a ha h; exact ih _ (by have := h p (.head _); simp only [maxI]; split <;> omega) (fun p hp => h p (.tail _ hp))
  exact this L 0 hm h
theorem entsF_snoc (view : Int) (L : List zca) (base : Int) (n : Nat) : zks view L base n ++ [entAt view L base n] = zks view L base (n + 1) := by
  simp [zks, List.range_succ]
theorem zpG {cs : List zO} : ∀ {k : Nat}, k ≤ cs.length → cs ≠ [] → ∃ c ∈ cs, zmx cs k = c.cert
  | 0, _, h => by
    cases cs with
    | nil => exact absurd rfl h
    | cons c cs => exact ⟨c, .head _, rfl⟩
  | k + 1, hk, h => by
    obtain ⟨c, hc, e⟩ := zpG (k := k) (by omega) h
    have hx : cs[k]? = some cs[k] := by simp [show k < cs.length by omega]
    rw [zuf hx, zpF]
    split
    · exact ⟨_, List.getElem_mem _, rfl⟩
    · exact ⟨c, hc, e⟩
end Go.AW
