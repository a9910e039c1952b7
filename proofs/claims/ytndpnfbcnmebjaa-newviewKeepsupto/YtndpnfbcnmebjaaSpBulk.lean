/- What holds little has short lists. No program in sight. -/
import Derived.Test.YtndpnfbcnmebjaaSpOp
set_option linter.all false
set_option linter.unusedSimpArgs false
namespace Go.AW

theorem bulkLL_len {α : Type} {f : α → List D} (h : ∀ a, 1 ≤ bulkL (f a)) : ∀ (l : List α), l.length ≤ bulkLL (l.map f)
  | [] => Nat.zero_le _
  | a :: l => by have := h a; have := bulkLL_len h l; simp only [List.map_cons, List.length_cons, bulkLL]; omega
theorem bulkLL_mem {α : Type} {f : α → List D} {a : α} : ∀ {l : List α}, a ∈ l → bulkL (f a) ≤ bulkLL (l.map f)
  | b :: l, h => by
    simp only [List.map_cons, bulkLL]
    rcases List.mem_cons.1 h with rfl | h
    · omega
    · have := bulkLL_mem (f := f) h; omega
theorem bulk_recsE_len (rs : List (List UInt8)) : rs.length ≤ bulkLL (recsE rs) ∧ ∀ r ∈ rs, r.length ≤ bulkLL (recsE rs) := by
  refine ⟨bulkLL_len (f := fun r => [D.slice (bcs r)]) (fun r => by simp only [bulkL, bulkD]; omega) rs, fun r hr => ?_⟩
  have := bulkLL_mem (f := fun r => [D.slice (bcs r)]) hr
  simp only [bulkL, bulkD, bulk_bcs] at this
  unfold recsE
  omega
/-- lists at most so long -/
def leB (n : Nat) (b : List TSigned) : Prop := b.length ≤ n ∧ ∀ x ∈ b, x.op.recs.length ≤ n ∧ ∀ r ∈ x.op.recs, r.length ≤ n
theorem leB_bulk {b : List TSigned} {n : Nat} (h : bulkLL (batchE b) ≤ n) : leB n b := by
  unfold batchE at h
  refine ⟨Nat.le_trans (bulkLL_len (f := signedD) (fun a => by simp only [signedD, bulkL, bulkD]; omega) b) h, fun x hx => ?_⟩
  have := bulkLL_mem (f := signedD) hx
  simp only [signedD, bulkL, bulkD] at this
  have h2 := bulk_recsE_len x.op.recs
  refine ⟨by omega, fun r hr => ?_⟩
  have := h2.2 r hr
  omega
def leP (n : Nat) (p : TPrep) : Prop := p.signs.length ≤ n ∧ leB n p.batch
theorem signs_bulk (l : List TSign) : l.length ≤ bulkLL (signsE l) := bulkLL_len (f := signD) (fun a => by simp only [signD, bulkL, bulkD]; omega) l
theorem leP_bulk {p : TPrep} {n : Nat} (h : bulkL (prepD p) ≤ n) : leP n p := by
  simp only [prepD, bulkL, bulkD] at h
  have := signs_bulk p.signs
  exact ⟨by omega, leB_bulk (by omega)⟩
theorem leC_bulk {cs : List TChange} {n : Nat} (h : bulkLL (changesE cs) ≤ n) : cs.length ≤ n ∧ ∀ c ∈ cs, c.cert.signs.length ≤ n ∧ c.above.length ≤ n ∧ ∀ p ∈ c.above, leP n p := by
  unfold changesE at h
  refine ⟨Nat.le_trans (bulkLL_len (f := changeD) (fun a => by simp only [changeD, bulkL, bulkD]; omega) cs) h, fun c hc => ?_⟩
  have := bulkLL_mem (f := changeD) hc
  simp only [changeD, bulkL, bulkD] at this
  have h1 := signs_bulk c.cert.signs
  have h2 := bulkLL_len (f := prepD) (fun a => by simp only [prepD, bulkL, bulkD]; omega) c.above
  refine ⟨by omega, by unfold prepsE at this; omega, fun p hp => leP_bulk ?_⟩
  have := bulkLL_mem (f := prepD) hp
  unfold prepsE at *
  omega
end Go.AW
