/- Arguments of known types as data of the document. -/
import Derived.Test.YtahbjkanmagndaaAwRun
import Derived.Test.YtahbjkanmagndaaSpOp
set_option linter.all false
set_option linter.unusedSimpArgs false
namespace Go.AW

theorem list_as {α β : Type} {f : α → β} : ∀ {l : List β}, (∀ e ∈ l, ∃ a, e = f a) → ∃ as_ : List α, l = as_.map f
  | [], _ => ⟨[], rfl⟩
  | e :: l, h => by
    obtain ⟨a, rfl⟩ := h e List.mem_cons_self
    obtain ⟨as_, rfl⟩ := list_as (l := l) (fun x hx => h x (List.mem_cons_of_mem _ hx))
    exact ⟨a :: as_, rfl⟩
theorem fits1 {t : Ty} {d : D} (h : TFitsL [t] [d]) : TFits t d := h.2 0 t d rfl rfl
theorem one_of {t : Ty} {ds : List D} (h : TFitsL [t] ds) : ∃ d, ds = [d] ∧ TFits t d := by
  match ds, h with
  | [d], h => exact ⟨d, rfl, fits1 h⟩
theorem tfits_cons {t : Ty} {ts : List Ty} {ds : List D} (h : TFitsL (t :: ts) ds) : ∃ d ds', ds = d :: ds' ∧ TFits t d ∧ TFitsL ts ds' := by
  match ds, h with
  | d :: ds', h => exact ⟨d, ds', rfl, h.2 0 t d rfl rfl, by have := h.1; simpa using this, fun i t d h1 h2 => h.2 (i + 1) t d h1 h2⟩
theorem tfits_nil {ds : List D} (h : TFitsL [] ds) : ds = [] := by
  have := h.1; simpa using this
theorem dec_int {k : IntKind} {d : D} (h : TFits (.int k) d) : ∃ n, d = .int k n ∧ (Lit.int k n).wf = true := by cases h with | int _ n h => exact ⟨n, rfl, h⟩
theorem dec_i64 {d : D} (h : TFits (.int .i64) d) : ∃ n, d = .int .i64 n ∧ -9223372036854775808 ≤ n ∧ n ≤ 9223372036854775807 := by
  obtain ⟨n, hd, h2⟩ := dec_int h
  exact ⟨n, hd, by simpa [Lit.wf, IntKind.min, IntKind.max, IntKind.signed, IntKind.bits] using h2⟩
theorem dec_u8 {d : D} (h : TFits (.int .u8) d) : ∃ b : UInt8, d = .int .u8 b.toNat := by
  obtain ⟨n, hd, h2⟩ := dec_int h
  have h' : 0 ≤ n ∧ n ≤ 255 := by simpa [Lit.wf, IntKind.min, IntKind.max, IntKind.signed, IntKind.bits] using h2
  exact ⟨UInt8.ofNat n.toNat, by rw [hd, byte_ofNat (by omega)]; congr 1; omega⟩
theorem dec_str {d : D} (h : TFits .str d) : ∃ s, d = .str s := by cases h with | str s _ => exact ⟨s, rfl⟩
theorem dec_slice {α : Type} {ts : List Ty} {d : D} {f : α → List D} (h : TFits (.slice ts) d) (hf : ∀ e, TFitsL ts e → ∃ a, e = f a) : ∃ as_ : List α, d = .slice (as_.map f) := by
  cases h with
  | slice _ es h1 h2 h3 =>
    obtain ⟨as_, rfl⟩ := list_as (f := f) (fun e he => hf e ⟨h2 e he, h3 e he⟩)
    exact ⟨as_, rfl⟩
theorem dec_bytes {d : D} (h : TFits (.slice [.int .u8]) d) : ∃ bs, d = .slice (bcs bs) := dec_slice h fun e he => by
  obtain ⟨d, rfl, h⟩ := one_of he
  obtain ⟨b, rfl⟩ := dec_u8 h
  exact ⟨b, rfl⟩
theorem dec_recs {d : D} (h : TFits (.slice [.slice [.int .u8]]) d) : ∃ rs, d = .slice (recsE rs) := dec_slice h fun e he => by
  obtain ⟨d, rfl, h⟩ := one_of he
  obtain ⟨b, rfl⟩ := dec_bytes h
  exact ⟨b, rfl⟩
theorem bulk_bcs (bs : List UInt8) : bulkLL (bcs bs) = bs.length := by
  induction bs with
  | nil => rfl
  | cons b bs ih => simp only [bcs, List.map_cons, byteCell, bulkLL, bulkL, bulkD, List.length_cons] at ih ⊢; omega
theorem bulk_recs (rs : List (List UInt8)) : bulkLL (recsE rs) = (rs.map fun r => r.length + 1).sum := by
  induction rs with
  | nil => rfl
  | cons r rs ih => simp only [recsE, List.map_cons, bulkLL, bulkL, bulkD, List.sum_cons, bulk_bcs] at ih ⊢; omega
def tyOp : List Ty := [.int .i64, .str, .str, .int .i64, .slice [.slice [.int .u8]]]
def i64r (n : Int) : Prop := -9223372036854775808 ≤ n ∧ n ≤ 9223372036854775807
/-- an operation whose numbers are of their kind -/
def opR (o : TOp) : Prop := i64r o.kind ∧ i64r o.offset
def opD (o : TOp) : List D := [.int .i64 o.kind, .str o.topic, .str o.group, .int .i64 o.offset, .slice (recsE o.recs)]
theorem dec_op {ds : List D} (h : TFitsL tyOp ds) : ∃ o : TOp, ds = opD o ∧ opR o := by
  obtain ⟨d1, ds1, rfl, h1, g1⟩ := tfits_cons h
  obtain ⟨k, rfl, k1, k2⟩ := dec_i64 h1
  obtain ⟨d2, ds2, rfl, h2, g2⟩ := tfits_cons g1
  obtain ⟨t, rfl⟩ := dec_str h2
  obtain ⟨d3, ds3, rfl, h3, g3⟩ := tfits_cons g2
  obtain ⟨g, rfl⟩ := dec_str h3
  obtain ⟨d4, ds4, rfl, h4, g4⟩ := tfits_cons g3
  obtain ⟨f, rfl, f1, f2⟩ := dec_i64 h4
  obtain ⟨d5, ds5, rfl, h5, g5⟩ := tfits_cons g4
  obtain ⟨r, rfl⟩ := dec_recs h5
  rw [tfits_nil g5]
  exact ⟨⟨k, t, g, f, r⟩, rfl, ⟨k1, k2⟩, f1, f2⟩
theorem opSz_bulk (o : TOp) : opSz o ≤ 10 * bulkL (opD o) := by
  have : (o.recs.map fun r => r.length + 10).sum ≤ 10 * (o.recs.map fun r => r.length + 1).sum := by
    induction o.recs with
    | nil => simp
    | cons r rs ih => simp only [List.map_cons, List.sum_cons]; omega
  simp only [opSz, opD, bulkL, bulkD, bulk_recs]
  omega
theorem argA_op (o : TOp) : argA true (opD o) = opA o := rfl
end Go.AW

/- Requests, batches, certificates, view-changes: what the document holds, as data. No program in sight. -/
set_option linter.unusedSimpArgs false
namespace Go.AW

structure TSign where
  key : Int
  dig : Int
deriving DecidableEq
structure TSigned where
  client : Int
  time : Int
  op : TOp
  key : Int
  dig : Int
deriving DecidableEq
structure TPrep where
  view : Int
  seq : Int
  dig : Int
  fkey : Int
  fdig : Int
  signs : List TSign
  batch : List TSigned
deriving DecidableEq
structure TCert where
  seq : Int
  dig : Int
  signs : List TSign
deriving DecidableEq
structure TChange where
  view : Int
  src : Int
  cert : TCert
  above : List TPrep
  key : Int
  dig : Int
deriving DecidableEq
structure TEntry where
  view : Int
  seq : Int
  batch : List TSigned
  key : Int
  dig : Int
deriving DecidableEq

def signedD (x : TSigned) : List D := [.int .i64 x.client, .int .i64 x.time, .int .i64 x.op.kind, .str x.op.topic, .str x.op.group, .int .i64 x.op.offset, .slice (recsE x.op.recs), .int .i64 x.key, .int .i64 x.dig]
abbrev batchE (b : List TSigned) : List (List D) := b.map signedD
end Go.AW
