/- What is put, and let go, on both sides. No program in sight. -/
import Derived.Test.YtjjchfbckfopkaaGreatHe1
set_option linter.all false
set_option maxRecDepth 100000
set_option linter.unusedSimpArgs false
set_option linter.unusedVariables false
namespace Go.Proofs.YtjjchfbckfopkaaGreat
open Go.AW

def zbU (s : Int) : List zw → Nat
  | [] => 0
  | q :: r => if q.seq < s then zbU s r + 1 else 0
theorem zmw (s : Int) : ∀ R : List zw, zbU s R ≤ R.length
  | [] => Nat.le_refl _
  | q :: r => by
    simp only [zbU]
    split
    · have := zmw s r; simp; omega
    · exact Nat.zero_le _
theorem zmv {s : Int} : ∀ {R : List zw} {i : Nat} {q : zw}, i < zbU s R → R[i]? = some q → q.seq < s
  | [], i, q, h, _ => by simp [zbU] at h
  | r :: R, i, q, h, hq => by
    simp only [zbU] at h
    split at h
    · rename_i hr
      cases i with
      | zero => simp at hq; subst hq; exact hr
      | succ i => exact zmv (R := R) (i := i) (by omega) (by simpa using hq)
    · omega
theorem zmx {s : Int} : ∀ {R : List zw} {q : zw}, R[zbU s R]? = some q → s ≤ q.seq
  | [], q, h => by simp [zbU] at h
  | r :: R, q, h => by
    simp only [zbU] at h
    split at h
    · exact zmx (by simpa using h)
    · rename_i hr
      simp at h; subst h; omega
theorem srt_get {R : List zw} (h : R.Pairwise fun p q => p.seq < q.seq) {i j : Nat} {p q : zw} (hij : i < j) (hi : R[i]? = some p) (hj : R[j]? = some q) : p.seq < q.seq := by
  obtain ⟨a, rfl⟩ := List.getElem?_eq_some_iff.1 hi
  obtain ⟨b, rfl⟩ := List.getElem?_eq_some_iff.1 hj
  exact List.pairwise_iff_getElem.1 h i j a b hij
theorem lessS_hi {s : Int} {R : List zw} (h : R.Pairwise fun p q => p.seq < q.seq) {i : Nat} {q : zw} (hi : zbU s R ≤ i) (hq : R[i]? = some q) : s ≤ q.seq := by
  have hl := (List.getElem?_eq_some_iff.1 hq).1
  have hk : R[zbU s R]? = some (R[zbU s R]'(by omega)) := List.getElem?_eq_getElem _
  have h1 := zmx hk
  by_cases e : i = zbU s R
  · subst e
    rw [hk] at hq; cases hq; exact h1
  · have := srt_get h (by omega) hk hq
    omega
theorem lessS_mem {R : List zw} (h : R.Pairwise fun p q => p.seq < q.seq) {q : zw} (hq : q ∈ R) : R[zbU q.seq R]? = some q := by
  obtain ⟨j, hj⟩ := List.mem_iff_getElem?.1 hq
  have h1 : ¬ j < zbU q.seq R := fun hlt => by have := zmv hlt hj; omega
  by_cases e : j = zbU q.seq R
  · rw [← e]; exact hj
  · have hl := (List.getElem?_eq_some_iff.1 hj).1
    have hk : R[zbU q.seq R]? = some (R[zbU q.seq R]'(by omega)) := List.getElem?_eq_getElem _
    have h2 := zmx hk
    have := srt_get h (by omega) hk hj
    omega
def dPut (R : List zw) (p : zw) : Bool × List zw := match R[zbU p.seq R]? with
  | some q => if q.seq = p.seq then (if q.view ≥ p.view then (false, R) else (true, R.take (zbU p.seq R) ++ p :: R.drop (zbU p.seq R + 1))) else (true, R.take (zbU p.seq R) ++ p :: R.drop (zbU p.seq R))
  | none => (true, R.take (zbU p.seq R) ++ p :: R.drop (zbU p.seq R))
theorem zgU {α : Type} {f : α → Int} {l : List α} {i : Nat} {a v x : α} (hn : (l.map f).Nodup) (hi : l[i]? = some a) (hv : f v = f a) : x ∈ l.set i v ↔ x = v ∨ (x ∈ l ∧ f x ≠ f v) := by
  have hil := (List.getElem?_eq_some_iff.1 hi).1
  constructor
  · intro hx
    obtain ⟨j, hj⟩ := List.mem_iff_getElem?.1 hx
    rw [List.getElem?_set] at hj
    split at hj
    · rename_i e
      first | exact .inl (Option.some.inj hj).symm | (rw [if_pos (by omega)] at hj; exact .inl (Option.some.inj hj).symm)
    · rename_i e
      refine .inr ⟨List.mem_of_getElem? hj, fun he => e ?_⟩
      have h1 : (l.map f)[i]? = some (f a) := by rw [List.getElem?_map, hi]; rfl
      have h2 : (l.map f)[j]? = some (f a) := by rw [List.getElem?_map, hj]; simp [he, hv]
      exact (List.getElem?_inj (by simpa using hil) hn).1 (h1.trans h2.symm)
  · rintro (rfl | ⟨h1, h2⟩)
    · exact List.mem_iff_getElem?.2 ⟨i, by simp [hil]⟩
    · obtain ⟨j, hj⟩ := List.mem_iff_getElem?.1 h1
      refine List.mem_iff_getElem?.2 ⟨j, ?_⟩
      rw [List.getElem?_set_ne (fun e => ?_)]
      · exact hj
      · subst e
        rw [hi] at hj; cases hj
        exact h2 hv.symm
theorem znl {s : Int} : ∀ {l : List (Int × zw)} {i j : Nat} {q : zw}, zcR s l i = some (j, q) → ∃ k, j = i + k ∧ l[k]? = some (s, q)
  | [], _, _, _, h => by simp [zcR] at h
  | e :: r, i, j, q, h => by
    simp only [zcR] at h
    split at h
    · rename_i h1
      cases h
      exact ⟨0, rfl, by rw [h1]; rfl⟩
    · obtain ⟨k, h2, h3⟩ := znl h
      exact ⟨k + 1, by omega, by simpa using h3⟩
theorem set_take {α : Type} {l : List α} {k : Nat} {x : α} (hk : k < l.length) : l.set k x = l.take k ++ x :: l.drop (k + 1) := List.set_eq_take_append_cons_drop .. |>.trans (if_pos hk)
theorem rel_put {l : List (Int × zw)} {R : List zw} {p : zw} (h : zma l R) (hp : zdb p) : hOk l p = (dPut R p).1 ∧ zma (hPut l p) (dPut R p).2 := by
  have hns : (R.map zw.seq).Nodup := h.seqs.imp fun hab => by omega
  have hle := zmw p.seq R
  unfold hOk hPut dPut
  cases hf : zcR p.seq l 0 with
  | some iq =>
    obtain ⟨i, q⟩ := iq
    obtain ⟨i', hii, hi⟩ := znl hf
    simp only [Nat.zero_add] at hii
    subst hii
    have hm := List.mem_of_getElem? hi
    have hqs : q.seq = p.seq := h.key _ hm
    have hqR : q ∈ R := h.mem' hm
    have hk : R[zbU p.seq R]? = some q := by rw [← hqs]; exact lessS_mem h.srt hqR
    have hkl := (List.getElem?_eq_some_iff.1 hk).1
    simp only [hk, if_pos hqs]
    by_cases hv : q.view ≥ p.view
    · simp only [if_pos hv, decide_eq_true hv, Bool.not_true]
      exact ⟨trivial, h⟩
    · simp only [if_neg hv, decide_eq_false hv, Bool.not_false]
      refine ⟨trivial, ?_⟩
      rw [← set_take hkl]
      have e1 : (l.set i (p.seq, p)).map Prod.fst = l.map Prod.fst := by
        rw [List.map_set]
        apply List.ext_getElem?
        intro j
        rw [List.getElem?_set]
        split
        · rename_i e; subst e
          have := (List.getElem?_eq_some_iff.1 hi).1
          rw [if_pos (by simpa using this), List.getElem?_map, hi]; rfl
        · rfl
      have e2 : (R.set (zbU p.seq R) p).map zw.seq = R.map zw.seq := by
        rw [List.map_set]
        apply List.ext_getElem?
        intro j
        rw [List.getElem?_set]
        split
        · rename_i e; subst e
          rw [if_pos (by simpa using hkl), List.getElem?_map, hk]; simp [hqs]
        · rfl
      refine ⟨by rw [e1]; exact h.nod, fun e he => ?_, fun r => ?_, List.pairwise_map.1 (by rw [e2]; exact h.seqs), fun r hr => ?_⟩
      · rcases (zgU (f := Prod.fst) (v := (p.seq, p)) h.nod hi rfl).1 he with rfl | ⟨h1, _⟩
        · rfl
        · exact h.key e h1
      · rw [zgU (f := Prod.fst) (v := (p.seq, p)) h.nod hi rfl, zgU (f := zw.seq) hns hk hqs.symm, h.mem]
        constructor
        · rintro (h1 | ⟨h1, h2⟩)
          · exact .inl (congrArg Prod.snd h1)
          · exact .inr ⟨h1, h2⟩
        · rintro (rfl | ⟨h1, h2⟩)
          · exact .inl rfl
          · exact .inr ⟨h1, h2⟩
      · rcases (zgU (f := zw.seq) hns hk hqs.symm).1 hr with rfl | ⟨h1, _⟩
        · exact hp
        · exact h.small r h1
  | none =>
    have hno : ∀ r ∈ R, r.seq ≠ p.seq := fun r hr e => by
      obtain ⟨k, hk⟩ := h.find hr
      rw [e, hf] at hk; cases hk
    have hd : (match R[zbU p.seq R]? with
      | some q => if q.seq = p.seq then (if q.view ≥ p.view then (false, R) else (true, R.take (zbU p.seq R) ++ p :: R.drop (zbU p.seq R + 1))) else (true, R.take (zbU p.seq R) ++ p :: R.drop (zbU p.seq R))
      | none => (true, R.take (zbU p.seq R) ++ p :: R.drop (zbU p.seq R))) = (true, R.take (zbU p.seq R) ++ p :: R.drop (zbU p.seq R)) := by
      cases hk : R[zbU p.seq R]? with
      | none => rfl
      | some q => simp only [if_neg (hno q (List.mem_of_getElem? hk))]
    simp only [hd]
    refine ⟨trivial, ?_⟩
    have hnl : p.seq ∉ l.map Prod.fst := fun hm => by
      obtain ⟨e, he, h1⟩ := List.mem_map.1 hm
      exact hno e.2 (h.mem' he) ((h.key e he).trans h1)
    have hmem : ∀ r, r ∈ R.take (zbU p.seq R) ++ p :: R.drop (zbU p.seq R) ↔ r = p ∨ r ∈ R := fun r => by
      rw [List.mem_append, List.mem_cons]
      conv => rhs; rw [← List.take_append_drop (zbU p.seq R) R]
      rw [List.mem_append]
      constructor
      · rintro (h | h | h)
        · exact .inr (.inl h)
        · exact .inl h
        · exact .inr (.inr h)
      · rintro (h | h | h)
        · exact .inr (.inl h)
        · exact .inl h
        · exact .inr (.inr h)
    refine ⟨?_, fun e he => ?_, fun r => ?_, ?_, fun r hr => ?_⟩
    · rw [List.map_append, List.nodup_append]
      exact ⟨h.nod, by simp, fun a ha b hb => by simp at hb; subst hb; exact fun e => hnl (e ▸ ha)⟩
    · rcases List.mem_append.1 he with he | he
      · exact h.key e he
      · simp at he; subst he; rfl
    · rw [hmem, List.mem_append, List.mem_singleton, h.mem]
      constructor
      · rintro (h1 | h1)
        · exact .inr h1
        · exact .inl (congrArg Prod.snd h1)
      · rintro (rfl | h1)
        · exact .inr rfl
        · exact .inl h1
    · rw [List.pairwise_append, List.pairwise_cons]
      refine ⟨h.srt.sublist (List.take_sublist _ _), ⟨fun r hr => ?_, h.srt.sublist (List.drop_sublist _ _)⟩, fun a ha b hb => ?_⟩
      · obtain ⟨j, hj⟩ := List.mem_iff_getElem?.1 hr
        rw [List.getElem?_drop] at hj
        have h1 := lessS_hi h.srt (s := p.seq) (Nat.le_add_right _ j) hj
        have h2 := hno r (List.mem_of_getElem? hj)
        omega
      · obtain ⟨j, hj⟩ := List.mem_iff_getElem?.1 ha
        rw [List.getElem?_take] at hj
        split at hj
        · rename_i hjl
          have h1 := zmv hjl hj
          rcases List.mem_cons.1 hb with rfl | hb
          · exact h1
          · obtain ⟨i, hi⟩ := List.mem_iff_getElem?.1 hb
            rw [List.getElem?_drop] at hi
            have h2 := lessS_hi h.srt (s := p.seq) (Nat.le_add_right _ i) hi
            omega
        · cases hj
    · rcases (hmem r).1 hr with rfl | hr
      · exact hp
      · exact h.small r hr
theorem dPut_len (R : List zw) (p : zw) : (dPut R p).2.length ≤ R.length + 1 := by
  have hle := zmw p.seq R
  unfold dPut
  split
  · split
    · split
      · simp
      · simp; omega
    · simp; omega
  · simp; omega
theorem rel_get {l : List (Int × zw)} {R : List zw} (h : zma l R) (s : Int) : (zcR s l 0).map Prod.snd = R.find? fun q => q.seq == s := by
  cases hf : zcR s l 0 with
  | some iq =>
    have hm := findP_key' hf
    have hq := h.mem' hm
    have hs : iq.2.seq = s := h.key _ hm
    symm
    rw [Option.map_some, List.find?_eq_some_iff_getElem]
    obtain ⟨j, hj⟩ := List.mem_iff_getElem?.1 hq
    obtain ⟨hjl, hje⟩ := List.getElem?_eq_some_iff.1 hj
    refine ⟨by simpa using hs, j, hjl, hje, fun i hij => ?_⟩
    have := srt_get h.srt hij (List.getElem?_eq_getElem (by omega)) hj
    have hs' : (s, iq.snd).snd.seq = s := hs
    have hne : R[i].seq ≠ s := by omega
    simpa using hne
  | none =>
    symm
    rw [Option.map_none, List.find?_eq_none]
    intro q hq he
    obtain ⟨k, hk⟩ := h.find hq
    simp at he
    rw [he, hf] at hk; cases hk
end Go.Proofs.YtjjchfbckfopkaaGreat
