/- Requests that wait: of each client at most one. No program in sight. -/
import Derived.Test.YtjjchfbckfopkaaGreatRq1
import Derived.Test.YtjjchfbckfopkaaGreatAwFrz
import Derived.Test.YtjjchfbckfopkaaGreatRc2
set_option linter.all false
set_option linter.unusedSimpArgs false
set_option linter.unusedVariables false
namespace Go.AW

abbrev PQ := List (Option ze)
structure zeK (q : PQ) : Prop where
  len : q.length = 8
  at_ : ∀ (i : Nat) x, q[i]? = some (some x) → x.client = i ∧ zw [x] = 0 ∧ okO x.op
def zcq (q : PQ) : List ze := q.filterMap id
def ofF (q : PQ) (c : Int) : Option ze := if 0 ≤ c ∧ c < 8 then (q[c.toNat]?).join else none
def mayPut : Option ze → Int → Bool
  | some y, t => decide (y.time < t)
  | none, _ => true
def mayDone : Option ze → Int → Bool
  | some y, t => decide (y.time ≤ t)
  | none, _ => false
def canPut (q : PQ) (x : ze) : Bool := decide (zw [x] = 0) && mayPut (ofF q x.client) x.time
def putQ (q : PQ) (x : ze) : PQ := if canPut q x = true then q.set x.client.toNat (some x) else q
def canDone (q : PQ) (c t : Int) : Bool := mayDone (ofF q c) t
def doneQ (q : PQ) (c t : Int) : PQ := if canDone q c t = true then q.set c.toNat none else q

theorem one_ok {x : ze} (h : zw [x] = 0) : 0 ≤ x.client ∧ x.client < 8 ∧ 1 ≤ x.time ∧ x.time ≤ 9007199254740992 ∧ zbE zgK x.op = 0 ∧ zB x = 0 ∧ zah x.key x.dig = 0 := by
  simp only [zw, List.length_singleton, zgM, znv] at h
  have h1 : ¬ (1 > 4) := by omega
  rw [if_neg h1] at h
  by_cases hr : zB x = 0
  · by_cases hs : zah x.key x.dig = 0
    · unfold zB at hr
      split at hr
      · cases hr
      · rename_i hc
        have hr' : zB x = 0 := by unfold zB; rw [if_neg hc]; exact hr
        exact ⟨by omega, by omega, by omega, by omega, hr, hr', hs⟩
    · exfalso
      simp [hr, hs] at h
  · exfalso
    simp [hr] at h
theorem ofF_some {q : PQ} {c : Int} {x : ze} (h : ofF q c = some x) : 0 ≤ c ∧ c < 8 ∧ q[c.toNat]? = some (some x) := by
  unfold ofF at h
  split at h
  · rename_i hc
    refine ⟨hc.1, hc.2, ?_⟩
    cases hq : q[c.toNat]? with
    | none => rw [hq] at h; cases h
    | some o => rw [hq] at h; simp at h; rw [h]
  · cases h
theorem zeK.get {q : PQ} (hq : zeK q) {c : Int} (h0 : 0 ≤ c) (h8 : c < 8) : q[c.toNat]? = some (ofF q c) := by
  have hl := hq.len
  have : q[c.toNat]? = some (q[c.toNat]'(by omega)) := List.getElem?_eq_getElem _
  unfold ofF
  rw [if_pos ⟨h0, h8⟩, this]
  rfl
theorem zeK.put {q : PQ} (hq : zeK q) {x : ze} (hx : okO x.op) : zeK (putQ q x) := by
  unfold putQ
  split
  · rename_i hc
    simp only [canPut, Bool.and_eq_true, decide_eq_true_eq] at hc
    obtain ⟨h0, h8, _⟩ := one_ok hc.1
    refine ⟨by simp [hq.len], fun i y h => ?_⟩
    rw [List.getElem?_set] at h
    split at h
    · rename_i e
      split at h
      · simp at h; subst h
        exact ⟨by omega, hc.1, hx⟩
      · cases h
    · exact hq.at_ i y h
  · exact hq
theorem zeK.done {q : PQ} (hq : zeK q) {c t : Int} : zeK (doneQ q c t) := by
  unfold doneQ
  split
  · refine ⟨by simp [hq.len], fun i y h => ?_⟩
    rw [List.getElem?_set] at h
    split at h
    · split at h
      · simp at h
      · cases h
    · exact hq.at_ i y h
  · exact hq
theorem ziE {q : PQ} {x : ze} (h : x ∈ zcq q) : ∃ i : Nat, q[i]? = some (some x) := by
  simp only [zcq, List.mem_filterMap, id_eq, exists_eq_right] at h
  exact List.mem_iff_getElem?.1 h
end Go.AW

/- Contracts: a pool: made, asked, put into, done. -/
set_option maxRecDepth 100000
set_option linter.unusedSimpArgs false
set_option linter.unusedVariables false
namespace Go.Proofs.YtjjchfbckfopkaaGreat
open Go.AW



theorem any_take {α : Type} {l : List α} {p : α → Bool} {k : Nat} {x : α} (h : l[k]? = some x) (h0 : (l.take k).any p = false) (hx : p x = false) : (l.take (k + 1)).any p = false := by
  rw [List.take_add_one, h]; simp [List.any_append, h0, hx]
theorem any_mem {α : Type} {l : List α} {p : α → Bool} {k : Nat} {x : α} (h : l[k]? = some x) (hx : p x = true) : l.any p = true := List.any_eq_true.2 ⟨x, List.mem_of_getElem? h, hx⟩
theorem zje {σ : List zb} {b : List ze} {f : FuncId} {cap : List AV} {p : ze → Bool} (hb : b.length ≤ 1073741824) (hf : ∀ x ∈ b, ∀ K : AV → List zb → Prop, K (.d (.bool (p x))) σ → zn Tryz.prog f (zet x :: cap) σ K)
    {K : AV → List zb → Prop} (hK : ∀ r : Int, decide (r ≥ 0) = b.any p → K (.d (.int .i64 r)) σ) : zn Tryz.prog zaz [.d (.slice (zbn b)), .fn (.func f) [] cap] σ K := by
  refine zia zcw fun hl => ?_
  simp only [zbp, iN, bT, bF, eN]
  refine zmQ ?_
  refine zR b.length (fun k vs s => vs = [.d (.int .i64 k)] ∧ s = σ ∧ (b.take k).any p = false) ⟨rfl, rfl, by simp⟩ ?_
  rintro k vs s hk ⟨rfl, rfl, hno⟩
  by_cases hlt : k < b.length
  · have hd : decide ((k : Int) < (b.length : Int)) = true := by simp; omega
    have hx : b[k]? = some b[k] := by simp [hlt]
    have hfx := hf _ (List.getElem_mem hlt)
    have hgx := zaT (f := zaK) hx
    obtain ⟨x, hxe⟩ : ∃ x, b[k] = x := ⟨_, rfl⟩
    rw [hxe] at hx hgx hfx
    rw [zet] at hfx
    refine gq35 (zce hd hgx) ?_
    refine hfx _ ?_
    cases h1 : p x
    · refine zfi (wk1 k (by omega)) ?_
      exact zbq.next hlt ⟨rfl, rfl, any_take hx hno h1⟩
    · refine zmQ ?_
      refine zam hl ?_
      exact hK _ (by rw [any_mem hx h1]; simp)
  · have hd : decide ((k : Int) < (b.length : Int)) = false := by simp; omega
    refine zfi hd ?_
    refine zam hl ?_
    rw [List.take_of_length_le (by omega)] at hno
    exact hK _ (by rw [hno]; rfl)
theorem zhi {σ : List zb} {b : List ze} {f : FuncId} {cap : List AV} {p : ze → Bool} (hb : b.length ≤ 1073741824) (hf : ∀ x ∈ b, ∀ K : AV → List zb → Prop, K (.d (.bool (p x))) σ → zn Tryz.prog f (zet x :: cap) σ K)
    {K : AV → List zb → Prop} (hK : K (.d (.bool (b.any p))) σ) : zn Tryz.prog zau [.d (.slice (zbn b)), .fn (.func f) [] cap] σ K := by
  refine zia zck fun hl => ?_
  simp only [zaS, iN, bT, bF, eN]
  refine zmQ ?_
  refine zje hb hf fun r hr => ?_
  refine zfi hr ?_
  refine zam hl ?_
  exact hK
end Go.Proofs.YtjjchfbckfopkaaGreat
