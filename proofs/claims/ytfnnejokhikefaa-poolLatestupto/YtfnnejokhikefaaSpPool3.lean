/- What is picked: the first four of those that stand in no open batch. No program in sight. -/
import Derived.Test.YtfnnejokhikefaaSpPool2
set_option linter.all false
set_option linter.unusedSimpArgs false
set_option linter.unusedVariables false
namespace Go.AW

theorem PoolI.one {q : PQ} (hq : PoolI q) {x : TSigned} (hx : x ∈ waitF q) : checkBatchF [x] = 0 := by
  obtain ⟨i, hi⟩ := waitF_mem hx
  exact (hq.at_ i x hi).2.1
end Go.AW

/- The latest that was put, of each client, and whether it was done. No program in sight. -/
set_option linter.unusedSimpArgs false
set_option linter.unusedVariables false
namespace Go.AW

def latOk : Option TSigned → Int → Int → Prop
  | some y, a, d => a = y.time ∧ d = 0 ∧ 1 ≤ y.time
  | none, a, d => d = a
structure LatI (q : PQ) (lat dn : List Int) : Prop where
  ll : lat.length = 8
  ld : dn.length = 8
  at_ : ∀ (i : Nat) o a d, q[i]? = some o → lat[i]? = some a → dn[i]? = some d → latOk o a d
def lat0 : List Int := List.replicate 8 0
theorem lat0_I : LatI noPool lat0 lat0 := ⟨rfl, rfl, fun i o a d h1 h2 h3 => by
  simp only [noPool, lat0, List.getElem?_replicate] at h1 h2 h3
  split at h1
  · rename_i h
    rw [if_pos h] at h2 h3
    cases h1; cases h2; cases h3; rfl
  · cases h1⟩
theorem LatI.put {q : PQ} {lat dn : List Int} (hq : PoolI q) (h : LatI q lat dn) {x : TSigned} (hx : checkBatchF [x] = 0) {a d : Int} (ha : lat[x.client.toNat]? = some a) (hd : dn[x.client.toNat]? = some d) :
    canPut q x = (d == a || decide (x.time > a)) ∧ (canPut q x = true → LatI (putQ q x) (lat.set x.client.toNat x.time) (dn.set x.client.toNat 0)) ∧ (canPut q x = false → putQ q x = q) := by
  obtain ⟨h0, h8, ht, _⟩ := one_ok hx
  have hg := hq.get h0 h8
  have hok := h.at_ _ _ _ _ hg ha hd
  refine ⟨?_, fun hc => ?_, fun hc => by simp [putQ, hc]⟩
  · simp only [canPut, hx]
    cases ho : ofF q x.client with
    | none => rw [ho] at hok; simp only [latOk] at hok; simp [mayPut, hok]
    | some y =>
      rw [ho] at hok; obtain ⟨e1, e2, e3⟩ := hok
      have : (d == a) = false := by simp; omega
      simp [mayPut, e1]; intro h; omega
  · rw [putQ, if_pos hc]
    refine ⟨by simp [h.ll], by simp [h.ld], fun i o a' d' h1 h2 h3 => ?_⟩
    by_cases hi : x.client.toNat = i
    · subst hi
      have hl1 := h.ll; have hl2 := h.ld; have hl3 := hq.len
      rw [List.getElem?_set_self (by omega)] at h1 h2 h3
      cases h1; cases h2; cases h3
      exact ⟨rfl, rfl, ht⟩
    · rw [List.getElem?_set_ne hi] at h1 h2 h3
      exact h.at_ i o a' d' h1 h2 h3
theorem done_out {q : PQ} {c t : Int} (h : ¬ (0 ≤ c ∧ c < 8)) : doneQ q c t = q := by
  simp [doneQ, canDone, ofF, h, mayDone]
theorem LatI.done {q : PQ} {lat dn : List Int} (hq : PoolI q) (h : LatI q lat dn) {c t : Int} (h0 : 0 ≤ c) (h8 : c < 8) {a : Int} (ha : lat[c.toNat]? = some a) :
    (a ≤ t → LatI (doneQ q c t) lat (dn.set c.toNat a)) ∧ (¬ a ≤ t → LatI (doneQ q c t) lat dn) := by
  have hg := hq.get h0 h8
  have hl1 := h.ll; have hl2 := h.ld; have hl3 := hq.len
  have hd : dn[c.toNat]? = some (dn[c.toNat]'(by omega)) := List.getElem?_eq_getElem _
  have hok := h.at_ _ _ _ _ hg ha hd
  have set_none : ∀ o, ofF q c = o → (a ≤ t → (match o with | some y => y.time ≤ t | none => True)) := fun o ho hat => by
    rw [ho] at hok
    cases o with
    | none => trivial
    | some y => show y.time ≤ t; rw [← hok.1]; exact hat
  have key : ∀ q', (∀ i o, q'[i]? = some o → (c.toNat ≠ i → q[i]? = some o) ∧ (c.toNat = i → o = none ∨ False)) → LatI q' lat (dn.set c.toNat a) := fun q' hq' => by
    refine ⟨hl1, by simp [hl2], fun i o a' d' h1 h2 h3 => ?_⟩
    obtain ⟨g1, g2⟩ := hq' i o h1
    by_cases hi : c.toNat = i
    · have := (g2 hi).resolve_right id
      subst hi; subst this
      rw [List.getElem?_set_self (by omega)] at h3
      rw [ha] at h2; cases h2; cases h3
      rfl
    · rw [List.getElem?_set_ne hi] at h3
      exact h.at_ i o a' d' (g1 hi) h2 h3
  constructor
  · intro hat
    have hs := set_none _ rfl hat
    apply key
    intro i o h1
    unfold doneQ at h1
    cases ho : ofF q c with
    | none =>
      have : canDone q c t = false := by simp [canDone, ho, mayDone]
      rw [if_neg (by simp [this])] at h1
      refine ⟨fun _ => h1, fun e => ?_⟩
      subst e
      rw [hg, ho] at h1; cases h1; exact .inl rfl
    | some y =>
      rw [ho] at hs
      have hy : y.time ≤ t := hs
      have : canDone q c t = true := by simp [canDone, ho, mayDone, hy]
      rw [if_pos this] at h1
      refine ⟨fun e => by rwa [List.getElem?_set_ne e] at h1, fun e => ?_⟩
      subst e
      rw [List.getElem?_set_self (by omega)] at h1
      cases h1; exact .inl rfl
  · intro hat
    have : doneQ q c t = q := by
      unfold doneQ
      rw [if_neg]
      cases ho : ofF q c with
      | none => simp [canDone, ho, mayDone]
      | some y =>
        rw [ho] at hok
        have := hok.1
        simp [canDone, ho, mayDone]; omega
    rw [this]; exact h
theorem LatI.end_ {q : PQ} {lat dn : List Int} (hq : PoolI q) (h : LatI q lat dn) {c : Nat} (h8 : c < 8) {a d : Int} (ha : lat[c]? = some a) (hd : dn[c]? = some d) :
    (ofF q c).isSome = (a != d) ∧ ∀ y, ofF q c = some y → y.time = a := by
  have hg := hq.get (c := c) (by omega) (by omega)
  rw [Int.toNat_natCast] at hg
  have hok := h.at_ _ _ _ _ hg ha hd
  cases ho : ofF q c with
  | none => rw [ho] at hok; simp only [latOk] at hok; simp [hok]
  | some y =>
    rw [ho] at hok; obtain ⟨e1, e2, e3⟩ := hok
    refine ⟨?_, fun y' h => by cases h; exact e1.symm⟩
    simp; omega
abbrev intsC (l : List Int) : List AV := l.map fun t => .d (.int .i64 t)
theorem intsC_get {l : List Int} {i : Nat} {a : Int} (h : l[i]? = some a) : (intsC l)[i]? = some (.d (.int .i64 a)) := by simp [intsC, h]
theorem intsC_set (l : List Int) (i : Nat) (a : Int) : (intsC l).set i (.d (.int .i64 a)) = intsC (l.set i a) := by simp [intsC, List.map_set]
end Go.AW
