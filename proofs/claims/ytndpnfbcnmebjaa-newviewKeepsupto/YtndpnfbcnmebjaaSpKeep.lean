/- What so many have prepared that it may have been committed is gone on with. No program in sight. -/
import Derived.Test.YtndpnfbcnmebjaaSpNv2
set_option linter.all false
set_option linter.unusedSimpArgs false
namespace Go.AW

/-- a certificate that cannot be, or another batch by one that is not faulty -/
def badAt (faulty : Bool) (p q : TPrep) : Bool :=
  if faulty then (q.seq == p.seq) && (decide (q.view > p.view) || ((q.view == p.view) && !decide (p.batch = q.batch)))
  else (q.seq == p.seq) && (decide (q.view ≥ p.view) && !decide (p.batch = q.batch))
def tellsOk (faulty : Int → Bool) (p : TPrep) (c : TChange) : Bool := match latF c.above p.seq with | some q => !faulty c.src && decide (q.view ≥ p.view) | none => false
theorem latF_max {s : Int} : ∀ (L : List TPrep) (o : Option TPrep) {r : TPrep}, L.foldl (latStep s) o = some r → (∀ q ∈ L, q.seq = s → q.view ≤ r.view) ∧ (∀ q, o = some q → q.view ≤ r.view)
  | [], o, r, h => ⟨by simp, fun q hq => by
      have : some r = some q := h.symm.trans hq
      cases this
      exact Int.le_refl _⟩
  | p :: L, o, r, h => by
    obtain ⟨ih1, ih2⟩ := latF_max L _ h
    unfold latStep at ih2
    by_cases e : p.seq = s
    · rw [if_pos e] at ih2
      cases o with
      | none =>
        have := ih2 p rfl
        refine ⟨fun q hq hs => ?_, by simp⟩
        rcases List.mem_cons.1 hq with rfl | hq
        · exact this
        · exact ih1 q hq hs
      | some x =>
        simp only at ih2
        by_cases g : p.view > x.view
        · rw [if_pos g] at ih2
          have := ih2 p rfl
          refine ⟨fun q hq hs => ?_, fun q hq => ?_⟩
          · rcases List.mem_cons.1 hq with rfl | hq
            · exact this
            · exact ih1 q hq hs
          · cases hq; omega
        · rw [if_neg g] at ih2
          have := ih2 x rfl
          refine ⟨fun q hq hs => ?_, fun q hq => ?_⟩
          · rcases List.mem_cons.1 hq with rfl | hq
            · omega
            · exact ih1 q hq hs
          · cases hq; exact this
    · rw [if_neg e] at ih2
      refine ⟨fun q hq hs => ?_, ih2⟩
      rcases List.mem_cons.1 hq with rfl | hq
      · exact absurd hs e
      · exact ih1 q hq hs
theorem latF_some {s : Int} {q : TPrep} : ∀ (L : List TPrep) (o : Option TPrep), (o.isSome = true ∨ (q ∈ L ∧ q.seq = s)) → (L.foldl (latStep s) o).isSome = true
  | [], o, h => by
    rcases h with h | h
    · exact h
    · simp at h
  | p :: L, o, h => by
    refine latF_some (q := q) L _ ?_
    unfold latStep
    rcases h with h | ⟨h, hs⟩
    · left
      split
      · cases o with
        | none => rfl
        | some x => simp only; split <;> rfl
      · exact h
    · rcases List.mem_cons.1 h with rfl | h
      · left
        rw [if_pos hs]
        cases o with
        | none => rfl
        | some x => simp only; split <;> rfl
      · exact .inr ⟨h, hs⟩
theorem greatF_ge {L : List TPrep} {p : TPrep} (h : p ∈ L) : p.seq ≤ greatF L := by
  have : ∀ (L : List TPrep) (a : Int), a ≤ L.foldl (fun m p => maxI m p.seq) a ∧ ∀ p ∈ L, p.seq ≤ L.foldl (fun m p => maxI m p.seq) a := by
    intro L
    induction L with
    | nil => intro a; simp
    | cons q L ih =>
      intro a
      obtain ⟨h1, h2⟩ := ih (maxI a q.seq)
      have e : a ≤ maxI a q.seq ∧ q.seq ≤ maxI a q.seq := by unfold maxI; split <;> omega
      simp only [List.foldl_cons]
      refine ⟨by omega, fun p hp => ?_⟩
      rcases List.mem_cons.1 hp with rfl | hp
      · omega
      · exact h2 p hp
  exact (this L 0).2 p h
theorem mem_prepsOf {cs : List TChange} {c : TChange} {p : TPrep} (hc : c ∈ cs) (hp : p ∈ c.above) : p ∈ prepsOf cs cs.length := by
  simp only [prepsOf, List.take_length, List.mem_flatten, List.mem_map]
  exact ⟨_, ⟨c, hc, rfl⟩, hp⟩
theorem mayF_big {f view : Int} {cs : List TChange} (h : mayF f view cs = 0) : timesF 2 f ≤ cs.length := by
  unfold mayF at h
  split at h
  · rename_i h0; exact absurd h h0
  · split at h
    · omega
    · split at h
      · omega
      · split at h
        · omega
        · omega
/-- the law, of data -/
theorem keeps_law {f view : Int} {cs : List TChange} {faulty pick : Int → Bool} {p : TPrep}
    (hall : ∀ c ∈ cs, ∀ q ∈ c.above, badAt (faulty c.src) p q = false)
    (hfew : (cs.length : Int) - (cs.filter (tellsOk faulty p)).length < timesF 2 f)
    (he : (selF f view (cs.filter fun c => pick c.src)).2.2 = 0)
    (h0 : 0 ≤ (selF f view (cs.filter fun c => pick c.src)).1.seq) (h1 : (selF f view (cs.filter fun c => pick c.src)).1.seq < p.seq) (h8 : p.seq - (selF f view (cs.filter fun c => pick c.src)).1.seq ≤ 8) :
    (∃ x ∈ (selF f view (cs.filter fun c => pick c.src)).2.1, x.seq = p.seq) ∧ ∀ x ∈ (selF f view (cs.filter fun c => pick c.src)).2.1, x.seq = p.seq → x.batch = p.batch := by
  obtain ⟨some_, hsome⟩ : ∃ s, (cs.filter fun c => pick c.src) = s := ⟨_, rfl⟩
  have hsub : ∀ c ∈ some_, c ∈ cs := fun c hc => by rw [← hsome] at hc; exact (List.mem_filter.1 hc).1
  rw [hsome] at he h0 h1 h8 ⊢
  have hmay : mayF f view some_ = 0 := by
    unfold selF at he
    split at he
    · exact he
    · rename_i h; simpa using h
  have hbig := mayF_big hmay
  -- one of them tells it
  have hex : ∃ c ∈ some_, tellsOk faulty p c = true := by
    rcases Classical.em (∃ c ∈ some_, tellsOk faulty p c = true) with h | h
    · exact h
    · exfalso
      have hle : (cs.filter fun c => pick c.src).length ≤ (cs.filter fun c => !tellsOk faulty p c).length := by
        rw [← List.countP_eq_length_filter, ← List.countP_eq_length_filter]
        refine List.countP_mono_left fun c hc hp => ?_
        cases ht : tellsOk faulty p c with
        | false => rfl
        | true => exact absurd ⟨c, by rw [← hsome]; exact List.mem_filter.2 ⟨hc, hp⟩, ht⟩ h
      have hsum : (cs.filter (tellsOk faulty p)).length + (cs.filter fun c => !tellsOk faulty p c).length = cs.length := by
        have := List.length_eq_countP_add_countP (tellsOk faulty p) (l := cs)
        rw [List.countP_eq_length_filter, List.countP_eq_length_filter] at this
        rw [this]
        congr 3
        funext c
        cases tellsOk faulty p c <;> rfl
      rw [hsome] at hle
      omega
  obtain ⟨c, hc, ht⟩ := hex
  obtain ⟨q, hq, hqv⟩ : ∃ q, latF c.above p.seq = some q ∧ q.view ≥ p.view := by
    unfold tellsOk at ht
    cases hl : latF c.above p.seq with
    | none => rw [hl] at ht; simp at ht
    | some q => rw [hl] at ht; simp at ht; exact ⟨q, rfl, ht.2⟩
  obtain ⟨hqs, hqm⟩ := latF_seq hq
  obtain ⟨L, hL⟩ : ∃ L, prepsOf some_ some_.length = L := ⟨_, rfl⟩
  have hqL : q ∈ L := hL ▸ mem_prepsOf hc hqm
  have his := latF_some (q := q) (s := p.seq) L none (.inr ⟨hqL, hqs⟩)
  obtain ⟨r, hr⟩ : ∃ r, latF L p.seq = some r := Option.isSome_iff_exists.1 his
  obtain ⟨hrs, hrm⟩ := latF_seq hr
  have hmax := (latF_max L none hr).1 q hqL hqs
  obtain ⟨d, hd, hrd⟩ := prepsOf_mem (hL ▸ hrm)
  have hbad := hall d (hsub d hd) r hrd
  have hbatch : r.batch = p.batch := by
    unfold badAt at hbad
    rcases Classical.em (p.batch = r.batch) with h | h
    · exact h.symm
    · exfalso
      have hv : r.view ≥ p.view := by omega
      split at hbad
      · simp [hrs, h] at hbad
        omega
      · simp [hrs, h] at hbad
        omega
  have hgr := greatF_ge hrm
  -- the entries
  have hsel : selF f view some_ = if (bestF some_ some_.length).seq < 0 ∨ greatF L ≤ (bestF some_ some_.length).seq then (bestF some_ some_.length, [], 0) else (bestF some_ some_.length, entsF view L (bestF some_ some_.length).seq (manyF (greatF L) (bestF some_ some_.length).seq), 0) := by
    rw [selF, if_neg (by rw [hmay]; simp)]; simp only [hL]
  have hb : (selF f view some_).1 = bestF some_ some_.length := by rw [hsel]; split <;> rfl
  rw [hb] at h0 h1 h8
  have hents : (selF f view some_).2.1 = entsF view L (bestF some_ some_.length).seq (manyF (greatF L) (bestF some_ some_.length).seq) := by
    rw [hsel, if_neg (by omega)]
  rw [hents]
  constructor
  · refine ⟨entAt view L (bestF some_ some_.length).seq (p.seq - (bestF some_ some_.length).seq - 1).toNat, ?_, ?_⟩
    · simp only [entsF, List.mem_map, List.mem_range]
      exact ⟨_, by unfold manyF; omega, rfl⟩
    · simp only [entAt]; omega
  · intro x hx hxs
    simp only [entsF, List.mem_map, List.mem_range] at hx
    obtain ⟨n, _, rfl⟩ := hx
    simp only [entAt] at hxs ⊢
    rw [hxs, hr]
    exact hbatch
end Go.AW
