/- The law PreparedOne, from the contracts. -/
import Derived.Test.YtcappjcojggehaaGreatLv1
import Derived.Test.YtcappjcojggehaaGreatKp2
import Derived.Test.YtcappjcojggehaaGreatPp2
set_option linter.all false
set_option maxRecDepth 100000
set_option linter.unusedSimpArgs false
set_option linter.unusedVariables false
namespace Go.Proofs.YtcappjcojggehaaGreat
open Go.AW

/-! which votes are kept; no program in sight -/
abbrev zoD := Int × Int × Int
def zmx (v : zcv) : zoD := (v.key, v.view, v.seq)
def zen (k : zoD) : List (zoD × Nat) → Nat → Option (Nat × Nat)
  | [], _ => none
  | e :: r, i => if k = e.1 then some (i, e.2) else zen k r (i + 1)
def oneM (M : List (zoD × Nat)) : List (AV × AV) := M.map fun e => (.agg [.d (.int .i64 e.1.1), .d (.int .i64 0), .d (.int .i64 e.1.2.1), .d (.int .i64 e.1.2.2), .d (.int .u8 0)], .d (.int .u8 e.2))
abbrev keyA (v : zcv) : AV := .agg [.d (.int .i64 v.key), .d (.int .i64 0), .d (.int .i64 v.view), .d (.int .i64 v.seq), .d (.int .u8 0)]
theorem vote_keyEq (v : zcv) (k : zoD) : zdm (.ints 5) (keyA v) (.agg [.d (.int .i64 k.1), .d (.int .i64 0), .d (.int .i64 k.2.1), .d (.int .i64 k.2.2), .d (.int .u8 0)]) = some (decide (zmx v = k)) := by
  obtain ⟨k1, k2, k3⟩ := k
  simp only [zdm, zbx, List.length_cons, List.length_nil, if_true, Option.map_some, beq_self_eq_true, Bool.and_true, Bool.true_and]
  by_cases h : zmx v = (k1, k2, k3)
  · rw [decide_eq_true h]
    simp only [zmx, Prod.mk.injEq] at h
    obtain ⟨h1, h2, h3⟩ := h
    simp [h1, h2, h3]
  · rw [decide_eq_false h]
    simp only [zmx, Prod.mk.injEq] at h
    simp only [Option.some.injEq, Bool.and_eq_false_iff, beq_eq_false_iff_ne, ne_eq]
    by_cases h1 : v.key = k1
    · by_cases h2 : v.view = k2
      · simpa [h1, h2] using h
      · simp [h2]
    · simp [h1]
theorem zna (v : zcv) : ∀ (M : List (zoD × Nat)) (i : Nat), zfc (.ints 5) (keyA v) (oneM M) i = some ((zen (zmx v) M i).map fun q => (q.1, .d (.int .u8 q.2)))
  | [], _ => rfl
  | e :: r, i => by
    have ih := zna v r (i + 1)
    simp only [oneM] at ih
    simp only [oneM, List.map_cons, zfc, zen, vote_keyEq]
    by_cases h : zmx v = e.1
    · simp [h]
    · rw [decide_eq_false h, if_neg h]
      exact ih
theorem find_set {k : zoD} {b : Nat} : ∀ {M : List (zoD × Nat)} {j i had : Nat}, zen k M j = some (j + i, had) → ∀ k', (zen k' (M.set i (k, b)) j).map Prod.snd = if k' = k then some b else (zen k' M j).map Prod.snd
  | [], _, _, _, h, _ => by simp [zen] at h
  | e :: r, j, i, had, h, k' => by
    simp only [zen] at h
    split at h
    · rename_i he
      simp only [Option.some.injEq, Prod.mk.injEq] at h
      have : i = 0 := by omega
      subst this
      simp only [List.set_cons_zero, zen]
      by_cases hk : k' = k
      · simp [hk]
      · rw [if_neg hk, if_neg hk, if_neg (fun e' => hk (e'.trans he.symm))]
    · rename_i he
      have hi : ∃ i', i = i' + 1 := by
        have : ∀ {M : List (zoD × Nat)} {j p q}, zen k M j = some (p, q) → j ≤ p := by
          intro M
          induction M with
          | nil => intro j p q h; simp [zen] at h
          | cons e r ih =>
            intro j p q h
            simp only [zen] at h
            split at h
            · simp at h; omega
            · have := ih h; omega
        have := this h
        exact ⟨i - 1, by omega⟩
      obtain ⟨i', rfl⟩ := hi
      rw [show j + (i' + 1) = j + 1 + i' by omega] at h
      have ih := find_set (b := b) h k'
      simp only [List.set_cons_succ, zen]
      by_cases hk : k' = e.1
      · rw [if_pos hk, if_pos hk, if_neg (fun e' => he (e'.symm.trans hk))]
      · rw [if_neg hk, if_neg hk]
        exact ih
theorem find_add {k : zoD} {b : Nat} : ∀ {M : List (zoD × Nat)} {j : Nat}, zen k M j = none → ∀ k', (zen k' (M ++ [(k, b)]) j).map Prod.snd = if k' = k then some b else (zen k' M j).map Prod.snd
  | [], j, _, k' => by
    simp only [List.nil_append, zen]
    by_cases hk : k' = k
    · simp [hk]
    · simp [hk]
  | e :: r, j, h, k' => by
    simp only [zen] at h
    split at h
    · cases h
    · rename_i he
      have ih := find_add (b := b) h k'
      simp only [List.cons_append, zen]
      by_cases hk : k' = e.1
      · rw [if_pos hk, if_pos hk, if_neg (fun e' => he (e'.symm.trans hk))]
      · rw [if_neg hk, if_neg hk]
        exact ih
def keepV (bad : Int → Bool) (n : Nat) (s : List (zoD × Nat) × List zcv) (v : zcv) : List (zoD × Nat) × List zcv :=
  match zen (zmx v) s.1 0 with
  | some (i, had) => if had ≠ v.batch % n ∧ bad v.key = false then s else (s.1.set i (zmx v, v.batch % n), s.2 ++ [{ v with batch := v.batch % n }])
  | none => (s.1 ++ [(zmx v, v.batch % n)], s.2 ++ [{ v with batch := v.batch % n }])
structure KeI (bad : Int → Bool) (n : Nat) (s : List (zoD × Nat) × List zcv) : Prop where
  lt : ∀ v ∈ s.2, v.batch < n
  look : ∀ v ∈ s.2, bad v.key = false → (zen (zmx v) s.1 0).map Prod.snd = some v.batch
theorem keI {bad : Int → Bool} {n : Nat} {s : List (zoD × Nat) × List zcv} {v : zcv} (hn : 0 < n) (h : KeI bad n s) : KeI bad n (keepV bad n s v) := by
  have put : ∀ M, (∀ k', (zen k' M 0).map Prod.snd = if k' = zmx v then some (v.batch % n) else (zen k' s.1 0).map Prod.snd) → (bad v.key = false → ∀ w ∈ s.2, bad w.key = false → zmx w = zmx v → w.batch = v.batch % n) →
      KeI bad n (M, s.2 ++ [{ v with batch := v.batch % n }]) := fun M hM hold => by
    refine ⟨fun w hw => ?_, fun w hw hb => ?_⟩
    · rcases List.mem_append.1 hw with hw | hw
      · exact h.lt w hw
      · simp at hw; subst hw; exact Nat.mod_lt _ hn
    · rw [hM]
      rcases List.mem_append.1 hw with hw | hw
      · by_cases hk : zmx w = zmx v
        · rw [if_pos hk]
          have hkk : w.key = v.key := congrArg Prod.fst hk
          rw [hold (hkk ▸ hb) w hw hb hk]
        · rw [if_neg hk]; exact h.look w hw hb
      · simp at hw; subst hw
        exact if_pos rfl
  unfold keepV
  split
  · rename_i i had hf
    split
    · exact h
    · rename_i hne
      refine put _ (find_set (by simpa using hf)) fun hb w hw hwb hk => ?_
      have h1 := h.look w hw hwb
      rw [hk, hf] at h1
      simp at h1
      have : had = v.batch % n := by
        rcases Classical.em (had = v.batch % n) with e | e
        · exact e
        · exact absurd ⟨e, hb⟩ hne
      omega
  · rename_i hf
    refine put _ (find_add hf) fun hb w hw hwb hk => ?_
    have h1 := h.look w hw hwb
    rw [hk, hf] at h1
    cases h1
theorem keI_kept {bad : Int → Bool} {n : Nat} {s : List (zoD × Nat) × List zcv} (h : KeI bad n s) : KeptV bad s.2 := by
  intro v hv w hw hb h1 h2 h3
  have e : zmx v = zmx w := by simp only [zmx, h1, h2, h3]
  have g1 := h.look v hv hb
  have g2 := h.look w hw (by rw [← h1]; exact hb)
  rw [e, g2] at g1
  exact (Option.some.inj g1).symm
theorem count_upto {n m : Nat} (h : n ≤ m) {p q : Int → Bool} (hpq : ∀ i ∈ zdO n, p i = true → q i = true) : (zdO n).countP p ≤ ((zdO m).filter q).length := by
  rw [← List.countP_eq_length_filter]
  refine Nat.le_trans (List.countP_mono_left hpq) ?_
  exact List.Sublist.countP_le ((List.range_sublist.2 h).map _)
theorem faulty_few {s : Nat} {f : Int} (h0 : ¬ (f < 1 ∨ f > 4)) (h : ¬ ((memF (zmL s (allF (zcw 3 f).toNat))).length : Int) > f) : (zdO (3 * f + 1).toNat).countP (inF s) ≤ f.toNat := by
  have ht : zcw 3 f = 3 * f + 1 := by rw [zcw, if_neg h0]
  rw [ht] at h
  have := count_upto (n := (3 * f + 1).toNat) (m := 13) (by omega) (p := inF s) (q := inF (zmL s (allF (3 * f + 1).toNat))) fun i hi hp => by
    have := ziN.1 hi
    rw [in_both, in_all (by omega), hp]
    simp; omega
  have e : memF (zmL s (allF (3 * f + 1).toNat)) = (zdO 13).filter (inF (zmL s (allF (3 * f + 1).toNat))) := rfl
  rw [e] at h
  omega
theorem dec_set {d : D} (h : zfY (.int .u16) d) : ∃ n : Nat, d = .int .u16 n ∧ n < 65536 := by
  obtain ⟨n, rfl, h2⟩ := dec_int h
  have h' : 0 ≤ n ∧ n ≤ 65535 := by simpa [Lit.wf, IntKind.min, IntKind.max, IntKind.signed, IntKind.bits] using h2
  exact ⟨n.toNat, by rw [show ((n.toNat : Nat) : Int) = n by omega], by omega⟩
theorem zll : ∀ (l : List Nat) (m : Nat), (l.take m).sum ≤ l.sum
  | [], _ => by simp
  | _ :: _, 0 => by simp
  | x :: l, m + 1 => by have := zll l m; simp; omega
theorem okC_less {c : TCase} (h : okC c) {m : Nat} {votes : List zcv} (hl : votes.length ≤ c.votes.length) (hv : ∀ v ∈ votes, voteR v) : okC { c with bats := c.bats.take m, votes := votes } where
  f := h.f
  view := h.view
  low := h.low
  ops l hlm := h.ops l (List.mem_of_mem_take hlm)
  bl := by have := h.bl; simp only [List.length_take]; omega
  br l hlm := h.br l (List.mem_of_mem_take hlm)
  sum := by have := h.sum; have := zll (c.bats.map List.length) m; simp only [List.map_take]; omega
  votes := hv
  specs := h.specs
  sl := h.sl
end Go.Proofs.YtcappjcojggehaaGreat
