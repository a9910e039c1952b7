/- Two quorums have one that is not faulty; a vote's bytes say what it is. No program in sight. -/
import Derived.Test.YtcappjcojggehaaGreatSpSet
import Derived.Test.YtcappjcojggehaaGreatSpVote
import Derived.Test.YtcappjcojggehaaGreatSpRd
import Derived.Test.YtcappjcojggehaaGreatSpTab
set_option linter.all false
set_option linter.unusedSimpArgs false
set_option linter.unusedVariables false
namespace Go.AW

theorem ziy : ∀ (n : Nat) (A : List Int), A.Nodup → (∀ x ∈ A, 0 ≤ x ∧ x < n) → A.length ≤ (zdO n).countP (fun i => decide (i ∈ A))
  | 0, A, _, h => by
    cases A with
    | nil => simp
    | cons x A => have := h x (by simp); omega
  | n + 1, A, hA, h => by
    have hE : (A.erase (n : Int)).Nodup := hA.erase _
    have ih := ziy n (A.erase (n : Int)) hE fun x hx => by
      have := (List.Nodup.mem_erase_iff hA).1 hx
      have := h x this.2
      omega
    have hm : (zdO n).countP (fun i => decide (i ∈ A.erase (n : Int))) ≤ (zdO n).countP (fun i => decide (i ∈ A)) :=
      List.countP_mono_left fun x hx hp => by
        have hp : x ∈ A.erase (n : Int) := by simpa using hp
        simpa using List.mem_of_mem_erase hp
    rw [zjB, List.countP_append]
    by_cases hn : (n : Int) ∈ A
    · have e : [(n : Int)].countP (fun i => decide (i ∈ A)) = 1 := by simp [List.countP_cons, hn]
      have l := List.length_erase_of_mem hn
      have : 0 < A.length := List.length_pos_of_mem hn
      omega
    · rw [List.erase_of_not_mem hn] at ih hm
      omega
theorem count_two {α : Type} (a b c : α → Bool) : ∀ (R : List α), (∀ i ∈ R, a i = true → b i = true → c i = true) → R.countP a + R.countP b ≤ R.length + R.countP c
  | [], _ => by simp
  | x :: R, h => by
    have ih := count_two a b c R fun i hi => h i (by simp [hi])
    have hx := h x (by simp)
    simp only [List.countP_cons, List.length_cons]
    cases ha : a x <;> cases hb : b x <;> cases hc : c x <;> simp_all <;> omega
theorem quo_meet {f : Nat} {A B : List Int} {bad : Int → Bool} (hA : A.Nodup) (hB : B.Nodup) (rA : ∀ x ∈ A, 0 ≤ x ∧ x < ((3 * f + 1 : Nat) : Int)) (rB : ∀ x ∈ B, 0 ≤ x ∧ x < ((3 * f + 1 : Nat) : Int))
    (lA : 2 * f + 1 ≤ A.length) (lB : 2 * f + 1 ≤ B.length) (hf : (zdO (3 * f + 1)).countP bad ≤ f) : ∃ k, k ∈ A ∧ k ∈ B ∧ bad k = false := by
  rcases Classical.em (∃ k, k ∈ A ∧ k ∈ B ∧ bad k = false) with h | h
  · exact h
  · exfalso
    have h1 := ziy _ A hA rA
    have h2 := ziy _ B hB rB
    have h3 := count_two (fun i => decide (i ∈ A)) (fun i => decide (i ∈ B)) bad (zdO (3 * f + 1)) fun i _ ha hb => by
      cases hc : bad i with
      | true => rfl
      | false => exact absurd ⟨i, by simpa using ha, by simpa using hb, hc⟩ h
    have h4 : (zdO (3 * f + 1)).length = 3 * f + 1 := by simp [zdO]
    omega
theorem zdQ {x : Int} (h : zev x = true) : 0 ≤ x ∧ x.toNat < 18446744073709551616 := by
  have := ziT.1 h
  omega
theorem voteB_inj {a b c d a' b' c' d' : Int} (h : zjW a b c d = true) (h' : zjW a' b' c' d' = true) (e : zeT a b c d = zeT a' b' c' d') : a = a' ∧ b = b' ∧ c = c' ∧ d = d' := by
  simp only [zjW, Bool.and_eq_true] at h h'
  obtain ⟨h1, h2, h3, h4⟩ := h
  obtain ⟨g1, g2, g3, g4⟩ := h'
  have q1 := zdQ h1; have q2 := zdQ h2; have q3 := zdQ h3; have q4 := zdQ h4
  have p1 := zdQ g1; have p2 := zdQ g2; have p3 := zdQ g3; have p4 := zdQ g4
  simp only [zeT, zix, List.map_cons, List.map_nil, List.flatten_cons, List.flatten_nil, List.append_nil, List.cons.injEq, true_and] at e
  obtain ⟨e1, e⟩ := zkY q1.2 p1.2 e
  obtain ⟨e2, e⟩ := zkY q2.2 p2.2 e
  obtain ⟨e3, e⟩ := zkY q3.2 p3.2 e
  have e' : zct d.toNat ++ [] = zct d'.toNat ++ [] := by simpa using e
  obtain ⟨e4, _⟩ := zkY q4.2 p4.2 e'
  omega
end Go.AW

/- Bytes of requests and batches say where they end; who is in a ledger. No program in sight. -/
set_option linter.unusedSimpArgs false
set_option linter.unusedVariables false
namespace Go.AW

theorem sum_pos {l : List (List UInt8)} {b : List UInt8} (h : zgg l b ≠ 0) : ∃ i : Nat, zgg l b = ((i + 1 : Nat) : Int) ∧ zck (zhQ l b) b = some i ∧ (zhQ l b)[i]? = some b := by
  unfold zgg at h ⊢
  unfold zhQ
  cases ho : zck l b with
  | some i => exact ⟨i, rfl, ho, (zlc ho).2⟩
  | none =>
    simp only [ho] at h
    simp only
    split at h
    · exact absurd rfl h
    · rename_i hl
      rw [if_neg hl, if_neg hl]
      exact ⟨l.length, rfl, look_new l b ho, by simp⟩
theorem sumL_more (l : List (List UInt8)) (b : List UInt8) : ∃ m, zhQ l b = l ++ m := by
  unfold zhQ
  cases zck l b with
  | some i => exact ⟨[], by simp⟩
  | none =>
    simp only
    split
    · exact ⟨[], by simp⟩
    · exact ⟨[b], rfl⟩
end Go.AW
