/- The law TopicsStays, from the contracts. -/
import Derived.Test.YtaocmalhjfakdaaLv7
import Derived.Test.YtaocmalhjfakdaaSpStay
set_option linter.all false
set_option maxRecDepth 100000
set_option linter.unusedSimpArgs false
set_option linter.unusedVariables false
namespace Go.Proofs.Ytaocmalhjfakdaa
open Go.AW

abbrev atM (Y : List AtE) : List (AV × AV) := Y.map fun e => (.d (.str e.n), .own e.t (zbx e.l))
structure zhV (S : List zb) (id am : Nat) (T : zav) (Y : List AtE) (O : Nat → Prop) : Prop where
  top : zey S id T O
  map : S[am]? = some (.map (atM Y))
  tok : ∀ e ∈ Y, S[e.t]? = some (.tok 1 e.l.length)
  sep : ∀ (i j : Nat) (e f : AtE), Y[i]? = some e → Y[j]? = some f → i ≠ j → e.t ≠ f.t
  own : ¬ O am ∧ ∀ e ∈ Y, ¬ O e.t
section

variable {S S' : List zb} {id am : Nat} {T T' : zav} {Y : List AtE} {O : Nat → Prop}

theorem zhV.app (h : zhV S id am T Y O) (τ : List zb) : zhV (S ++ τ) id am T Y O :=
  ⟨h.top.app τ, zf h.map, fun e he => zf (h.tok e he), h.sep, h.own⟩
theorem zhV.after (h : zhV S id am T Y O) (hA : After S id T' O S') : ∃ O', zhV S' id am T' Y O' ∧ StO S S' O ∧ ∀ j, O' j → O j ∨ S.length ≤ j := by
  obtain ⟨O', h1, h2, h3⟩ := hA
  refine ⟨O', ⟨h1, h2.at_ h.map h.own.1, fun e he => h2.at_ (h.tok e he) (h.own.2 e he), h.sep, fun hj => ?_, fun e he hj => ?_⟩, h2, h3⟩
  · have := zF h.map
    exact (h3 _ hj).elim h.own.1 fun h => by omega
  · have := zF (h.tok e he)
    exact (h3 _ hj).elim (h.own.2 e he) fun h => by omega
theorem zhV.more (h : zhV S id am T Y O) {n : List UInt8} {i : Nat} {e : AtE} (hf : findY n Y 0 = some (i, e)) (r : List UInt8) :
    zhV ((S.set e.t (.tok 1 (e.l.length + 1))).set am (.map ((atM Y).set i (.d (.str n), .own e.t (zbx e.l ++ [[.slice (bcs r)]]))))) id am T (Y.set i ⟨n, e.l ++ [r], e.t⟩) O := by
  obtain ⟨j, e1, h1, h2⟩ := zjK hf
  rw [Nat.zero_add] at e1; subst e1
  have hm := List.mem_of_getElem? h1
  have ht := h.tok e hm
  have lt1 := zF ht
  have lm := zF h.map
  have ne : ∀ f ∈ Y, am ≠ f.t := fun f hf e => by have := h.map; rw [e, h.tok f hf] at this; cases this
  refine ⟨(h.top.set (h.own.2 e hm) _).set h.own.1 _, ?_, fun f hf => ?_, fun a b f g hf hg hab => ?_, h.own.1, fun f hf => ?_⟩
  · rw [List.getElem?_set_self (by simpa using lm)]
    simp [atM, List.map_set, zbx]
  · rcases zbH hf with rfl | ⟨k, hk, hf'⟩
    · rw [List.getElem?_set_ne (ne e hm), List.getElem?_set_self lt1]; simp
    · have := h.sep i k e f h1 hf' (Ne.symm hk)
      rw [List.getElem?_set_ne (ne f (List.mem_of_getElem? hf')), List.getElem?_set_ne this]
      exact h.tok f (List.mem_of_getElem? hf')
  · have key : ∀ (c : Nat) (s : AtE), (Y.set i ⟨n, e.l ++ [r], e.t⟩)[c]? = some s → ∃ s', Y[c]? = some s' ∧ s'.t = s.t := fun c s hc => by
      rw [List.getElem?_set] at hc
      split at hc
      · rename_i e2
        subst e2
        split at hc
        · cases hc; exact ⟨e, h1, rfl⟩
        · cases hc
      · exact ⟨s, hc, rfl⟩
    obtain ⟨f', g1, g2⟩ := key a f hf
    obtain ⟨g', g3, g4⟩ := key b g hg
    rw [← g2, ← g4]
    exact h.sep a b f' g' g1 g3 hab
  · rcases zbH hf with rfl | ⟨k, hk, hf'⟩
    · exact h.own.2 e hm
    · exact h.own.2 f (List.mem_of_getElem? hf')
theorem zhV.first (h : zhV S id am T Y O) {n : List UInt8} (r : List UInt8) :
    zhV (S.set am (.map (atM Y ++ [(.d (.str n), .own S.length [[.slice (bcs r)]])])) ++ [.tok 1 1]) id am T (Y ++ [⟨n, [r], S.length⟩]) O := by
  have lm := zF h.map
  have ne : ∀ f ∈ Y, am ≠ f.t := fun f hf e => by have := h.map; rw [e, h.tok f hf] at this; cases this
  refine ⟨(h.top.set h.own.1 _).app _, ?_, fun f hf => ?_, fun a b f g hf hg hab => ?_, h.own.1, fun f hf => ?_⟩
  · refine zf ?_
    rw [List.getElem?_set_self lm]; simp [atM, zbx]
  · rcases List.mem_append.1 hf with hf | hf
    · refine zf ?_
      rw [List.getElem?_set_ne (ne f hf)]; exact h.tok f hf
    · simp at hf; subst hf
      rw [List.getElem?_append_right (by simp)]; simp
  · have old : ∀ q ∈ Y, q.t < S.length := fun q hq => zF (h.tok q hq)
    rw [List.getElem?_append] at hf hg
    split at hf
    · split at hg
      · exact h.sep a b f g hf hg hab
      · have h5 := List.mem_of_getElem? hg
        simp at h5; subst h5
        have := old f (List.mem_of_getElem? hf)
        simp only; omega
    · have h4 := List.mem_of_getElem? hf
      have h6 := (List.getElem?_eq_some_iff.1 hf).1
      simp at h4 h6; subst h4
      split at hg
      · have := old g (List.mem_of_getElem? hg)
        simp only; omega
      · have h5 := (List.getElem?_eq_some_iff.1 hg).1
        simp at h5; omega
  · rcases List.mem_append.1 hf with hf | hf
    · exact h.own.2 f hf
    · simp at hf; subst hf
      intro hj
      have := h.top.own_lt hj
      simp at this
end

end Go.Proofs.Ytaocmalhjfakdaa
