/- Arguments of known types as data of the document. -/
import Derived.Test.YtnfienilahfdjaaAwFun
import Derived.Test.YtnfienilahfdjaaSpOp
set_option linter.all false
set_option linter.unusedSimpArgs false
namespace Go.AW

theorem list_as {α β : Type} {f : α → β} : ∀ {l : List β}, (∀ e ∈ l, ∃ a, e = f a) → ∃ as_ : List α, l = as_.map f
  | [], _ => ⟨[], rfl⟩
  | e :: l, h => by
    obtain ⟨a, rfl⟩ := h e List.mem_cons_self
    obtain ⟨as_, rfl⟩ := list_as (l := l) (fun x hx => h x (List.mem_cons_of_mem _ hx))
    exact ⟨a :: as_, rfl⟩
theorem fits1 {t : Ty} {d : D} (h : TFitsL [t] [d]) : TFits t d := h.2 0 t d rfl rfl
theorem one_of {t : Ty} {ds : List D} (h : TFitsL [t] ds) : ∃ d, ds = [d] ∧ TFits t d := by
  match ds, h with
  | [d], h => exact ⟨d, rfl, fits1 h⟩
theorem tfits_cons {t : Ty} {ts : List Ty} {ds : List D} (h : TFitsL (t :: ts) ds) : ∃ d ds', ds = d :: ds' ∧ TFits t d ∧ TFitsL ts ds' := by
  match ds, h with
  | d :: ds', h => exact ⟨d, ds', rfl, h.2 0 t d rfl rfl, by have := h.1; simpa using this, fun i t d h1 h2 => h.2 (i + 1) t d h1 h2⟩
theorem tfits_nil {ds : List D} (h : TFitsL [] ds) : ds = [] := by
  have := h.1; simpa using this
theorem dec_int {k : IntKind} {d : D} (h : TFits (.int k) d) : ∃ n, d = .int k n ∧ (Lit.int k n).wf = true := by cases h with | int _ n h => exact ⟨n, rfl, h⟩
theorem dec_i64 {d : D} (h : TFits (.int .i64) d) : ∃ n, d = .int .i64 n ∧ -9223372036854775808 ≤ n ∧ n ≤ 9223372036854775807 := by
  obtain ⟨n, hd, h2⟩ := dec_int h
  exact ⟨n, hd, by simpa [Lit.wf, IntKind.min, IntKind.max, IntKind.signed, IntKind.bits] using h2⟩
theorem dec_u8 {d : D} (h : TFits (.int .u8) d) : ∃ b : UInt8, d = .int .u8 b.toNat := by
  obtain ⟨n, hd, h2⟩ := dec_int h
  have h' : 0 ≤ n ∧ n ≤ 255 := by simpa [Lit.wf, IntKind.min, IntKind.max, IntKind.signed, IntKind.bits] using h2
  exact ⟨UInt8.ofNat n.toNat, by rw [hd, byte_ofNat (by omega)]; congr 1; omega⟩
theorem dec_str {d : D} (h : TFits .str d) : ∃ s, d = .str s := by cases h with | str s _ => exact ⟨s, rfl⟩
theorem dec_slice {α : Type} {ts : List Ty} {d : D} {f : α → List D} (h : TFits (.slice ts) d) (hf : ∀ e, TFitsL ts e → ∃ a, e = f a) : ∃ as_ : List α, d = .slice (as_.map f) := by
  cases h with
  | slice _ es h1 h2 h3 =>
    obtain ⟨as_, rfl⟩ := list_as (f := f) (fun e he => hf e ⟨h2 e he, h3 e he⟩)
    exact ⟨as_, rfl⟩
theorem dec_bytes {d : D} (h : TFits (.slice [.int .u8]) d) : ∃ bs, d = .slice (bcs bs) := dec_slice h fun e he => by
  obtain ⟨d, rfl, h⟩ := one_of he
  obtain ⟨b, rfl⟩ := dec_u8 h
  exact ⟨b, rfl⟩
theorem dec_recs {d : D} (h : TFits (.slice [.slice [.int .u8]]) d) : ∃ rs, d = .slice (recsE rs) := dec_slice h fun e he => by
  obtain ⟨d, rfl, h⟩ := one_of he
  obtain ⟨b, rfl⟩ := dec_bytes h
  exact ⟨b, rfl⟩
def i64r (n : Int) : Prop := -9223372036854775808 ≤ n ∧ n ≤ 9223372036854775807
def opR (o : TOp) : Prop := i64r o.kind ∧ i64r o.offset

structure TSign where
  key : Int
  dig : Int
deriving DecidableEq
structure TSigned where
  client : Int
  time : Int
  op : TOp
  key : Int
  dig : Int
deriving DecidableEq
structure TPrep where
  view : Int
  seq : Int
  dig : Int
  fkey : Int
  fdig : Int
  signs : List TSign
  batch : List TSigned
deriving DecidableEq
structure TCert where
  seq : Int
  dig : Int
  signs : List TSign
deriving DecidableEq
structure TChange where
  view : Int
  src : Int
  cert : TCert
  above : List TPrep
  key : Int
  dig : Int
deriving DecidableEq
structure TEntry where
  view : Int
  seq : Int
  batch : List TSigned
  key : Int
  dig : Int
deriving DecidableEq

def signedD (x : TSigned) : List D := [.int .i64 x.client, .int .i64 x.time, .int .i64 x.op.kind, .str x.op.topic, .str x.op.group, .int .i64 x.op.offset, .slice (recsE x.op.recs), .int .i64 x.key, .int .i64 x.dig]
abbrev batchE (b : List TSigned) : List (List D) := b.map signedD
theorem one_len {α : Type} {f : α → List D} {n : Nat} (hf : ∀ a, (f a).length = n) (l : List α) : ∀ e ∈ l.map f, e.length = n := by
  intro e he
  obtain ⟨a, _, rfl⟩ := List.mem_map.1 he
  exact hf a
theorem batch_nine (l : List TSigned) : ∀ e ∈ batchE l, e.length = 9 := one_len (f := signedD) (fun _ => rfl) l
theorem map_get {α : Type} {f : α → List D} {l : List α} {k : Nat} {x : α} (h : l[k]? = some x) : (l.map f)[k]? = some (f x) := by simp [h]
theorem map_snoc {α : Type} {f : α → List D} {l : List α} {k : Nat} {x : α} (h : l[k]? = some x) : (l.take k).map f ++ [f x] = (l.take (k + 1)).map f := by
  rw [List.take_add_one, h]; simp

def tySigned : List Ty := [.int .i64, .int .i64, .int .i64, .str, .str, .int .i64, .slice [.slice [.int .u8]], .int .i64, .int .i64]
def signedR (x : TSigned) : Prop := i64r x.client ∧ i64r x.time ∧ opR x.op ∧ i64r x.key ∧ i64r x.dig
theorem dec_signed {ds : List D} (h : TFitsL tySigned ds) : ∃ s : TSigned, ds = signedD s ∧ signedR s := by
  obtain ⟨d1, ds, rfl, h1, h⟩ := tfits_cons h
  obtain ⟨d2, ds, rfl, h2, h⟩ := tfits_cons h
  obtain ⟨d3, ds, rfl, h3, h⟩ := tfits_cons h
  obtain ⟨d4, ds, rfl, h4, h⟩ := tfits_cons h
  obtain ⟨d5, ds, rfl, h5, h⟩ := tfits_cons h
  obtain ⟨d6, ds, rfl, h6, h⟩ := tfits_cons h
  obtain ⟨d7, ds, rfl, h7, h⟩ := tfits_cons h
  obtain ⟨d8, ds, rfl, h8, h⟩ := tfits_cons h
  obtain ⟨d9, ds, rfl, h9, h⟩ := tfits_cons h
  obtain rfl := tfits_nil h
  obtain ⟨a1, rfl, k1⟩ := dec_i64 h1
  obtain ⟨a2, rfl, k2⟩ := dec_i64 h2
  obtain ⟨a3, rfl, k3⟩ := dec_i64 h3
  obtain ⟨a4, rfl⟩ := dec_str h4
  obtain ⟨a5, rfl⟩ := dec_str h5
  obtain ⟨a6, rfl, k6⟩ := dec_i64 h6
  obtain ⟨a7, rfl⟩ := dec_recs h7
  obtain ⟨a8, rfl, k8⟩ := dec_i64 h8
  obtain ⟨a9, rfl, k9⟩ := dec_i64 h9
  exact ⟨⟨a1, a2, ⟨a3, a4, a5, a6, a7⟩, a8, a9⟩, rfl, k1, k2, ⟨k3, k6⟩, k8, k9⟩
end Go.AW
