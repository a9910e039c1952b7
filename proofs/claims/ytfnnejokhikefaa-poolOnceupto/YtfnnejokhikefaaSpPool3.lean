/- What is picked: the first four of those that stand in no open batch. No program in sight. -/
import Derived.Test.YtfnnejokhikefaaSpPool2
set_option linter.all false
set_option linter.unusedSimpArgs false
set_option linter.unusedVariables false
namespace Go.AW

theorem rising_of (l : PQ) : ∀ (a : Nat), (∀ (i : Nat) x, l[i]? = some (some x) → x.client = ((a + i : Nat) : Int)) → (waitF l).Pairwise fun a b => a.client < b.client := by
  induction l with
  | nil => intro a _; simp [waitF]
  | cons o l ih =>
    intro a h
    have hr := ih (a + 1) fun i x hi => by have := h (i + 1) x (by simpa using hi); rw [this]; congr 1; omega
    cases o with
    | none => simpa [waitF] using hr
    | some x =>
      have e : waitF (some x :: l) = x :: waitF l := rfl
      rw [e, List.pairwise_cons]
      refine ⟨fun y hy => ?_, hr⟩
      obtain ⟨j, hj⟩ := waitF_mem (q := l) hy
      have h1 := h 0 x rfl
      have h2 := h (j + 1) y (by simpa using hj)
      omega
theorem PoolI.rising {q : PQ} (hq : PoolI q) : (waitF q).Pairwise fun a b => a.client < b.client :=
  rising_of q 0 fun i x hi => by have := (hq.at_ i x hi).1; simpa using this
abbrev restF (w : List TSigned) (op : List (List TSigned)) : List TSigned := w.filter fun s => !standsF s op
theorem pick_fold (op : List (List TSigned)) (w : List TSigned) : ∀ out : List TSigned, out.length ≤ 4 → w.foldl (pickStep op) out = out ++ (restF w op).take (4 - out.length) := by
  induction w with
  | nil => intro out _; simp
  | cons x w ih =>
    intro out ho
    rw [List.foldl_cons]
    by_cases hs : standsF x op = true
    · rw [show pickStep op out x = out from by simp [pickStep, hs], ih out ho]
      simp [restF, List.filter_cons, hs]
    · have hs' : standsF x op = false := by simpa using hs
      by_cases hl : out.length < 4
      · rw [show pickStep op out x = out ++ [x] from by simp [pickStep, hs', hl], ih _ (by simp; omega)]
        simp only [restF, List.filter_cons, hs', Bool.not_false, if_true, List.length_append, List.length_singleton, List.append_assoc]
        obtain ⟨m, hm⟩ : ∃ m, 4 - out.length = m + 1 := ⟨3 - out.length, by omega⟩
        rw [hm, show 4 - (out.length + 1) = m by omega]
        rfl
      · rw [show pickStep op out x = out from by simp [pickStep, hl], ih out ho]
        rw [show 4 - out.length = 0 by omega]
        simp
theorem pick_eq (w : List TSigned) (op : List (List TSigned)) : pickF w op = (restF w op).take 4 := by
  have := pick_fold op w [] (by simp)
  simpa [pickF] using this
theorem pick_rising {q : PQ} (hq : PoolI q) (op : List (List TSigned)) : (pickF (waitF q) op).Pairwise fun a b => a.client < b.client := by
  rw [pick_eq]
  exact (hq.rising.sublist List.filter_sublist).sublist (List.take_sublist _ _)
theorem pick_wait {w : List TSigned} {op : List (List TSigned)} {x : TSigned} (h : x ∈ pickF w op) : x ∈ w ∧ standsF x op = false := by
  rw [pick_eq] at h
  have := List.mem_filter.1 (List.mem_of_mem_take h)
  simpa using this
theorem one_err {x : TSigned} (h : checkBatchF [x] = 0) : errF x = 0 := by
  obtain ⟨_, _, _, _, _, h1, h2⟩ := one_ok h
  simp [errF, h1, h2]
theorem errs_all {l : List TSigned} (h : ∀ x ∈ l, errF x = 0) : errsF l = 0 := by
  induction l with
  | nil => rfl
  | cons x l ih =>
    have h1 := h x (by simp)
    have h2 := ih fun y hy => h y (by simp [hy])
    simp [errsF, h1, h2]
theorem rising_batch {l : List TSigned} (h4 : l.length ≤ 4) (h : ∀ x ∈ l, checkBatchF [x] = 0) (hp : l.Pairwise fun a b => a.client < b.client) : checkBatchF l = 0 := by
  have he : errsF l = 0 := errs_all fun x hx => one_err (h x hx)
  have hd : l.Pairwise ndup := hp.imp fun {a b} hab => by unfold ndup; omega
  unfold checkBatchF
  rw [if_neg (by omega), if_neg (by simp [he]), if_pos hd]
theorem PoolI.one {q : PQ} (hq : PoolI q) {x : TSigned} (hx : x ∈ waitF q) : checkBatchF [x] = 0 := by
  obtain ⟨i, hi⟩ := waitF_mem hx
  exact (hq.at_ i x hi).2.1
theorem pick_check {q : PQ} (hq : PoolI q) (op : List (List TSigned)) : checkBatchF (pickF (waitF q) op) = 0 :=
  rising_batch (pickF_len _ _) (fun x hx => hq.one (pick_wait hx).1) (pick_rising hq op)
def lastC (l : List TSigned) : Int := match l.getLast? with | some x => x.client | none => -1
/-- who is not picked -/
theorem pick_not {q : PQ} (hq : PoolI q) {op : List (List TSigned)} {s : TSigned} (hs : s ∈ waitF q) (h : standsF s op = false) (hn : s ∉ pickF (waitF q) op) :
    (pickF (waitF q) op).length = 4 ∧ lastC (pickF (waitF q) op) < s.client := by
  have hr : s ∈ restF (waitF q) op := List.mem_filter.2 ⟨hs, by simp [h]⟩
  have hp : (restF (waitF q) op).Pairwise fun a b => a.client < b.client := hq.rising.sublist List.filter_sublist
  rw [pick_eq] at hn ⊢
  generalize restF (waitF q) op = r at *
  have hd : s ∈ r.drop 4 := by
    rw [← List.take_append_drop 4 r] at hr
    exact (List.mem_append.1 hr).resolve_left hn
  have hl : 4 < r.length := by
    rcases Nat.lt_or_ge 4 r.length with h | h
    · exact h
    · rw [List.drop_eq_nil_of_le h] at hd; cases hd
  have hlt : (r.take 4).length = 4 := by rw [List.length_take]; omega
  refine ⟨hlt, ?_⟩
  unfold lastC
  cases hg : (r.take 4).getLast? with
  | none => rw [List.getLast?_eq_none_iff] at hg; rw [hg] at hlt; cases hlt
  | some x =>
    have hx : x ∈ r.take 4 := List.mem_of_getLast? hg
    rw [← List.take_append_drop 4 r] at hp
    exact (List.pairwise_append.1 hp).2.2 x hx s hd
theorem last_snoc {l : List TSigned} {k : Nat} {x : TSigned} (h : l[k]? = some x) : lastC (l.take (k + 1)) = x.client := by
  rw [List.take_add_one, h]; simp [lastC]
theorem rising_last {l : List TSigned} (hp : l.Pairwise fun a b => a.client < b.client) (h0 : ∀ x ∈ l, 0 ≤ x.client) {k : Nat} {x : TSigned} (h : l[k]? = some x) : lastC (l.take k) < x.client := by
  cases k with
  | zero => have := h0 x (List.mem_of_getElem? h); simp [lastC]; omega
  | succ k =>
    obtain ⟨hk, rfl⟩ := List.getElem?_eq_some_iff.1 h
    have hy : l[k]? = some (l[k]'(by omega)) := List.getElem?_eq_getElem _
    rw [last_snoc hy]
    exact List.pairwise_iff_getElem.1 hp k (k + 1) (by omega) hk (by omega)
end Go.AW
