/- What holds little has short lists. No program in sight. -/
import Derived.Test.YtfnnejokhikefaaSpDec
import Derived.Test.YtfnnejokhikefaaSpPool2
set_option linter.all false
set_option linter.unusedSimpArgs false
namespace Go.AW

theorem bulkLL_len {α : Type} {f : α → List D} (h : ∀ a, 1 ≤ bulkL (f a)) : ∀ (l : List α), l.length ≤ bulkLL (l.map f)
  | [] => Nat.zero_le _
  | a :: l => by have := h a; have := bulkLL_len h l; simp only [List.map_cons, List.length_cons, bulkLL]; omega
theorem bulkLL_mem {α : Type} {f : α → List D} {a : α} : ∀ {l : List α}, a ∈ l → bulkL (f a) ≤ bulkLL (l.map f)
  | b :: l, h => by
    simp only [List.map_cons, bulkLL]
    rcases List.mem_cons.1 h with rfl | h
    · omega
    · have := bulkLL_mem (f := f) h; omega
theorem bulk_recsE_len (rs : List (List UInt8)) : rs.length ≤ bulkLL (recsE rs) ∧ ∀ r ∈ rs, r.length ≤ bulkLL (recsE rs) := by
  refine ⟨bulkLL_len (f := fun r => [D.slice (bcs r)]) (fun r => by simp only [bulkL, bulkD]; omega) rs, fun r hr => ?_⟩
  have := bulkLL_mem (f := fun r => [D.slice (bcs r)]) hr
  simp only [bulkL, bulkD, bulk_bcs] at this
  unfold recsE
  omega
/-- lists at most so long -/
def leB (n : Nat) (b : List TSigned) : Prop := b.length ≤ n ∧ ∀ x ∈ b, x.op.recs.length ≤ n ∧ ∀ r ∈ x.op.recs, r.length ≤ n
theorem leB_bulk {b : List TSigned} {n : Nat} (h : bulkLL (batchE b) ≤ n) : leB n b := by
  unfold batchE at h
  refine ⟨Nat.le_trans (bulkLL_len (f := signedD) (fun a => by simp only [signedD, bulkL, bulkD]; omega) b) h, fun x hx => ?_⟩
  have := bulkLL_mem (f := signedD) hx
  simp only [signedD, bulkL, bulkD] at this
  have h2 := bulk_recsE_len x.op.recs
  refine ⟨by omega, fun r hr => ?_⟩
  have := h2.2 r hr
  omega
end Go.AW

/- A script of what is done to a pool; what holds little has short names, too. No program in sight. -/
set_option linter.unusedSimpArgs false
set_option linter.unusedVariables false
namespace Go.AW

theorem okB_bulk {b : List TSigned} {n : Nat} (h : bulkLL (batchE b) ≤ n) (hn : n ≤ 1048576) : okB b := by
  obtain ⟨h1, h2⟩ := leB_bulk h
  refine ⟨by omega, fun x hx => ?_⟩
  obtain ⟨h3, h4⟩ := h2 x hx
  unfold batchE at h
  have := bulkLL_mem (f := signedD) hx
  simp only [signedD, bulkL, bulkD] at this
  exact ⟨by omega, by omega, by omega, fun r hr => by have := h4 r hr; omega⟩
/-- lists of batches, short -/
def okL (l : List (List TSigned)) : Prop := l.length ≤ 1048576 ∧ ∀ b ∈ l, okB b ∧ b.length ≤ 1048576
theorem okL.len {l : List (List TSigned)} (h : okL l) : l.length ≤ 1073741824 ∧ ∀ b ∈ l, b.length ≤ 1073741824 := ⟨by have := h.1; omega, fun b hb => (h.2 b hb).1.1⟩
theorem dec_batch {d : D} (h : TFits (.slice tySigned) d) : ∃ b, d = .slice (batchE b) := dec_slice h fun e he => by
  obtain ⟨s, rfl, _⟩ := dec_signed he
  exact ⟨s, rfl⟩
/-- one step of a script -/
structure TStep where
  what : Int
  s : TSigned
  client : Int
  time : Int
  opn : List (List TSigned)
end Go.AW
