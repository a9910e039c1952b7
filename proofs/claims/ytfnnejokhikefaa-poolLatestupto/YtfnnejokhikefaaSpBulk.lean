/- What holds little has short lists. No program in sight. -/
import Derived.Test.YtfnnejokhikefaaSpDec
import Derived.Test.YtfnnejokhikefaaSpPool2
set_option linter.all false
set_option linter.unusedSimpArgs false
namespace Go.AW

theorem bulkLL_len {α : Type} {f : α → List D} (h : ∀ a, 1 ≤ bulkL (f a)) : ∀ (l : List α), l.length ≤ bulkLL (l.map f)
  | [] => Nat.zero_le _
  | a :: l => by have := h a; have := bulkLL_len h l; simp only [List.map_cons, List.length_cons, bulkLL]; omega
theorem bulkLL_mem {α : Type} {f : α → List D} {a : α} : ∀ {l : List α}, a ∈ l → bulkL (f a) ≤ bulkLL (l.map f)
  | b :: l, h => by
    simp only [List.map_cons, bulkLL]
    rcases List.mem_cons.1 h with rfl | h
    · omega
    · have := bulkLL_mem (f := f) h; omega
theorem bulk_recsE_len (rs : List (List UInt8)) : rs.length ≤ bulkLL (recsE rs) ∧ ∀ r ∈ rs, r.length ≤ bulkLL (recsE rs) := by
  refine ⟨bulkLL_len (f := fun r => [D.slice (bcs r)]) (fun r => by simp only [bulkL, bulkD]; omega) rs, fun r hr => ?_⟩
  have := bulkLL_mem (f := fun r => [D.slice (bcs r)]) hr
  simp only [bulkL, bulkD, bulk_bcs] at this
  unfold recsE
  omega
/-- lists at most so long -/
def leB (n : Nat) (b : List TSigned) : Prop := b.length ≤ n ∧ ∀ x ∈ b, x.op.recs.length ≤ n ∧ ∀ r ∈ x.op.recs, r.length ≤ n
theorem leB_bulk {b : List TSigned} {n : Nat} (h : bulkLL (batchE b) ≤ n) : leB n b := by
  unfold batchE at h
  refine ⟨Nat.le_trans (bulkLL_len (f := signedD) (fun a => by simp only [signedD, bulkL, bulkD]; omega) b) h, fun x hx => ?_⟩
  have := bulkLL_mem (f := signedD) hx
  simp only [signedD, bulkL, bulkD] at this
  have h2 := bulk_recsE_len x.op.recs
  refine ⟨by omega, fun r hr => ?_⟩
  have := h2.2 r hr
  omega
end Go.AW

/- A script of what is done to a pool; what holds little has short names, too. No program in sight. -/
set_option linter.unusedSimpArgs false
set_option linter.unusedVariables false
namespace Go.AW

theorem okB_bulk {b : List TSigned} {n : Nat} (h : bulkLL (batchE b) ≤ n) (hn : n ≤ 1048576) : okB b := by
  obtain ⟨h1, h2⟩ := leB_bulk h
  refine ⟨by omega, fun x hx => ?_⟩
  obtain ⟨h3, h4⟩ := h2 x hx
  unfold batchE at h
  have := bulkLL_mem (f := signedD) hx
  simp only [signedD, bulkL, bulkD] at this
  exact ⟨by omega, by omega, by omega, fun r hr => by have := h4 r hr; omega⟩
/-- lists of batches, short -/
def okL (l : List (List TSigned)) : Prop := l.length ≤ 1048576 ∧ ∀ b ∈ l, okB b ∧ b.length ≤ 1048576
theorem okL_bulk {l : List (List TSigned)} {n : Nat} (h : bulkLL (openE l) ≤ n) (hn : n ≤ 1048576) : okL l := by
  unfold openE at h
  refine ⟨Nat.le_trans (bulkLL_len (f := fun b => [D.slice (batchE b)]) (fun a => by simp only [bulkL, bulkD]; omega) l) (by omega), fun b hb => ?_⟩
  have := bulkLL_mem (f := fun b => [D.slice (batchE b)]) hb
  simp only [bulkL, bulkD] at this
  have hb2 : bulkLL (batchE b) ≤ n := by omega
  exact ⟨okB_bulk hb2 hn, by have := (leB_bulk hb2).1; omega⟩
theorem okL.len {l : List (List TSigned)} (h : okL l) : l.length ≤ 1073741824 ∧ ∀ b ∈ l, b.length ≤ 1073741824 := ⟨by have := h.1; omega, fun b hb => (h.2 b hb).1.1⟩
theorem dec_batch {d : D} (h : TFits (.slice tySigned) d) : ∃ b, d = .slice (batchE b) := dec_slice h fun e he => by
  obtain ⟨s, rfl, _⟩ := dec_signed he
  exact ⟨s, rfl⟩
theorem dec_open {d : D} (h : TFits (.slice [.slice tySigned]) d) : ∃ l, d = .slice (openE l) := dec_slice h fun e he => by
  obtain ⟨d, rfl, h1⟩ := one_of he
  obtain ⟨b, rfl⟩ := dec_batch h1
  exact ⟨b, rfl⟩

/-- one step of a script -/
structure TStep where
  what : Int
  s : TSigned
  client : Int
  time : Int
  opn : List (List TSigned)
def stepD (x : TStep) : List D := [.int .i64 x.what, .int .i64 x.s.client, .int .i64 x.s.time, .int .i64 x.s.op.kind, .str x.s.op.topic, .str x.s.op.group, .int .i64 x.s.op.offset, .slice (recsE x.s.op.recs), .int .i64 x.s.key, .int .i64 x.s.dig, .int .i64 x.client, .int .i64 x.time, .slice (openE x.opn)]
abbrev stepsE (l : List TStep) : List (List D) := l.map stepD
def tyStep : List Ty := [.int .i64, .int .i64, .int .i64, .int .i64, .str, .str, .int .i64, .slice [.slice [.int .u8]], .int .i64, .int .i64, .int .i64, .int .i64, .slice [.slice tySigned]]
theorem dec_step {ds : List D} (h : TFitsL tyStep ds) : ∃ s : TStep, ds = stepD s := by
  obtain ⟨d0, ds, rfl, h0, h⟩ := tfits_cons h
  obtain ⟨d1, ds, rfl, h1, h⟩ := tfits_cons h
  obtain ⟨d2, ds, rfl, h2, h⟩ := tfits_cons h
  obtain ⟨d3, ds, rfl, h3, h⟩ := tfits_cons h
  obtain ⟨d4, ds, rfl, h4, h⟩ := tfits_cons h
  obtain ⟨d5, ds, rfl, h5, h⟩ := tfits_cons h
  obtain ⟨d6, ds, rfl, h6, h⟩ := tfits_cons h
  obtain ⟨d7, ds, rfl, h7, h⟩ := tfits_cons h
  obtain ⟨d8, ds, rfl, h8, h⟩ := tfits_cons h
  obtain ⟨d9, ds, rfl, h9, h⟩ := tfits_cons h
  obtain ⟨d10, ds, rfl, h10, h⟩ := tfits_cons h
  obtain ⟨d11, ds, rfl, h11, h⟩ := tfits_cons h
  obtain ⟨d12, ds, rfl, h12, h⟩ := tfits_cons h
  obtain rfl := tfits_nil h
  obtain ⟨a0, rfl, _⟩ := dec_i64 h0
  obtain ⟨a1, rfl, _⟩ := dec_i64 h1
  obtain ⟨a2, rfl, _⟩ := dec_i64 h2
  obtain ⟨a3, rfl, _⟩ := dec_i64 h3
  obtain ⟨a4, rfl⟩ := dec_str h4
  obtain ⟨a5, rfl⟩ := dec_str h5
  obtain ⟨a6, rfl, _⟩ := dec_i64 h6
  obtain ⟨a7, rfl⟩ := dec_recs h7
  obtain ⟨a8, rfl, _⟩ := dec_i64 h8
  obtain ⟨a9, rfl, _⟩ := dec_i64 h9
  obtain ⟨a10, rfl, _⟩ := dec_i64 h10
  obtain ⟨a11, rfl, _⟩ := dec_i64 h11
  obtain ⟨a12, rfl⟩ := dec_open h12
  exact ⟨⟨a0, ⟨a1, a2, ⟨a3, a4, a5, a6, a7⟩, a8, a9⟩, a10, a11, a12⟩, rfl⟩
def okS (x : TStep) : Prop := okO x.s.op ∧ okL x.opn
theorem okS_bulk {l : List TStep} {n : Nat} (h : bulkLL (stepsE l) ≤ n) (hn : n ≤ 1048576) : l.length ≤ 1048576 ∧ ∀ x ∈ l, okS x := by
  unfold stepsE at h
  refine ⟨Nat.le_trans (bulkLL_len (f := stepD) (fun a => by simp only [stepD, bulkL, bulkD]; omega) l) (by omega), fun x hx => ?_⟩
  have := bulkLL_mem (f := stepD) hx
  simp only [stepD, bulkL, bulkD] at this
  have hr := bulk_recsE_len x.s.op.recs
  exact ⟨⟨by omega, by omega, by omega, fun r hr' => by have := hr.2 r hr'; omega⟩, okL_bulk (n := n) (by omega) hn⟩
end Go.AW
