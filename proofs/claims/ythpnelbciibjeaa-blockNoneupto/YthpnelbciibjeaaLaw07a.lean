/- The law TopicsStays, from the contracts. -/
import Derived.Test.YthpnelbciibjeaaKs2
import Derived.Test.YthpnelbciibjeaaSpStay
import Derived.Test.YthpnelbciibjeaaSpRqP
import Derived.Test.YthpnelbciibjeaaKs4
set_option linter.all false
set_option maxRecDepth 100000
set_option linter.unusedSimpArgs false
set_option linter.unusedVariables false
namespace Go.Proofs.Ythpnelbciibjeaa
open Go.AW

abbrev atM (Y : List AtE) : List (AV × AV) := Y.map fun e => (.d (.str e.n), .own e.t (zbK e.l))
structure zkS (S : List zc) (id am : Nat) (T : zaq) (Y : List AtE) (O : Nat → Prop) : Prop where
  top : zeB S id T O
  map : S[am]? = some (.map (atM Y))
  tok : ∀ e ∈ Y, S[e.t]? = some (.tok 1 e.l.length)
  sep : ∀ (i j : Nat) (e f : AtE), Y[i]? = some e → Y[j]? = some f → i ≠ j → e.t ≠ f.t
  own : ¬ O am ∧ ∀ e ∈ Y, ¬ O e.t
section

variable {S S' : List zc} {id am : Nat} {T T' : zaq} {Y : List AtE} {O : Nat → Prop}

theorem zkS.app (h : zkS S id am T Y O) (τ : List zc) : zkS (S ++ τ) id am T Y O :=
  ⟨h.top.app τ, zf h.map, fun e he => zf (h.tok e he), h.sep, h.own⟩
theorem zkS.after (h : zkS S id am T Y O) (hA : After S id T' O S') : ∃ O', zkS S' id am T' Y O' ∧ StO S S' O ∧ ∀ j, O' j → O j ∨ S.length ≤ j := by
  obtain ⟨O', h1, h2, h3⟩ := hA
  refine ⟨O', ⟨h1, h2.at_ h.map h.own.1, fun e he => h2.at_ (h.tok e he) (h.own.2 e he), h.sep, fun hj => ?_, fun e he hj => ?_⟩, h2, h3⟩
  · have := zl h.map
    exact (h3 _ hj).elim h.own.1 fun h => by omega
  · have := zl (h.tok e he)
    exact (h3 _ hj).elim (h.own.2 e he) fun h => by omega
theorem zkS.more (h : zkS S id am T Y O) {n : List UInt8} {i : Nat} {e : AtE} (hf : findY n Y 0 = some (i, e)) (r : List UInt8) :
    zkS ((S.set e.t (.tok 1 (e.l.length + 1))).set am (.map ((atM Y).set i (.d (.str n), .own e.t (zbK e.l ++ [[.slice (bcs r)]]))))) id am T (Y.set i ⟨n, e.l ++ [r], e.t⟩) O := by
  obtain ⟨j, e1, h1, h2⟩ := znb hf
  rw [Nat.zero_add] at e1; subst e1
  have hm := List.mem_of_getElem? h1
  have ht := h.tok e hm
  have lt1 := zl ht
  have lm := zl h.map
  have ne : ∀ f ∈ Y, am ≠ f.t := fun f hf e => by have := h.map; rw [e, h.tok f hf] at this; cases this
  refine ⟨(h.top.set (h.own.2 e hm) _).set h.own.1 _, ?_, fun f hf => ?_, fun a b f g hf hg hab => ?_, h.own.1, fun f hf => ?_⟩
  · rw [List.getElem?_set_self (by simpa using lm)]
    simp [atM, List.map_set, zbK]
  · rcases zcB hf with rfl | ⟨k, hk, hf'⟩
    · rw [List.getElem?_set_ne (ne e hm), List.getElem?_set_self lt1]; simp
    · have := h.sep i k e f h1 hf' (Ne.symm hk)
      rw [List.getElem?_set_ne (ne f (List.mem_of_getElem? hf')), List.getElem?_set_ne this]
      exact h.tok f (List.mem_of_getElem? hf')
  · have key : ∀ (c : Nat) (s : AtE), (Y.set i ⟨n, e.l ++ [r], e.t⟩)[c]? = some s → ∃ s', Y[c]? = some s' ∧ s'.t = s.t := fun c s hc => by
      rw [List.getElem?_set] at hc
      split at hc
      · rename_i e2
        subst e2
        split at hc
        · cases hc; exact ⟨e, h1, rfl⟩
        · cases hc
      · exact ⟨s, hc, rfl⟩
    obtain ⟨f', g1, g2⟩ := key a f hf
    obtain ⟨g', g3, g4⟩ := key b g hg
    rw [← g2, ← g4]
    exact h.sep a b f' g' g1 g3 hab
  · rcases zcB hf with rfl | ⟨k, hk, hf'⟩
    · exact h.own.2 e hm
    · exact h.own.2 f (List.mem_of_getElem? hf')
theorem zkS.first (h : zkS S id am T Y O) {n : List UInt8} (r : List UInt8) :
    zkS (S.set am (.map (atM Y ++ [(.d (.str n), .own S.length [[.slice (bcs r)]])])) ++ [.tok 1 1]) id am T (Y ++ [⟨n, [r], S.length⟩]) O := by
  have lm := zl h.map
  have ne : ∀ f ∈ Y, am ≠ f.t := fun f hf e => by have := h.map; rw [e, h.tok f hf] at this; cases this
  refine ⟨(h.top.set h.own.1 _).app _, ?_, fun f hf => ?_, fun a b f g hf hg hab => ?_, h.own.1, fun f hf => ?_⟩
  · refine zf ?_
    rw [List.getElem?_set_self lm]; simp [atM, zbK]
  · rcases List.mem_append.1 hf with hf | hf
    · refine zf ?_
      rw [List.getElem?_set_ne (ne f hf)]; exact h.tok f hf
    · simp at hf; subst hf
      rw [List.getElem?_append_right (by simp)]; simp
  · have old : ∀ q ∈ Y, q.t < S.length := fun q hq => zl (h.tok q hq)
    rw [List.getElem?_append] at hf hg
    split at hf
    · split at hg
      · exact h.sep a b f g hf hg hab
      · have h5 := List.mem_of_getElem? hg
        simp at h5; subst h5
        have := old f (List.mem_of_getElem? hf)
        simp only; omega
    · have h4 := List.mem_of_getElem? hf
      have h6 := (List.getElem?_eq_some_iff.1 hf).1
      simp at h4 h6; subst h4
      split at hg
      · have := old g (List.mem_of_getElem? hg)
        simp only; omega
      · have h5 := (List.getElem?_eq_some_iff.1 hg).1
        simp at h5; omega
  · rcases List.mem_append.1 hf with hf | hf
    · exact h.own.2 f hf
    · simp at hf; subst hf
      intro hj
      have := h.top.own_lt hj
      simp at this
end

theorem opSz_parts {o : TOp} (h : zlx o ≤ 20971520) : o.topic.length ≤ 20971520 ∧ o.group.length ≤ 20971520 ∧ o.recs.length ≤ 20971520 ∧ ∀ r ∈ o.recs, r.length ≤ 20971520 := by
  have h1 : ∀ l : List (List UInt8), l.length ≤ (l.map fun r => r.length + 10).sum ∧ ∀ r ∈ l, r.length ≤ (l.map fun r => r.length + 10).sum := by
    intro l
    induction l with
    | nil => simp
    | cons a l ih =>
      simp only [List.map_cons, List.sum_cons, List.length_cons]
      refine ⟨by omega, fun r hr => ?_⟩
      rcases List.mem_cons.1 hr with rfl | hr
      · omega
      · have := ih.2 r hr; omega
  unfold zlx at h
  have h2 := h1 o.recs
  exact ⟨by omega, by omega, by omega, fun r hr => by have := h2.2 r hr; omega⟩

def atsQ (b : Int) (i : Nat) : List Int := (List.range i).map fun (j : Nat) => b + (j : Int)
abbrev atsE (b : Int) (i : Nat) : List (List D) := (atsQ b i).map fun n => [.int .i64 n]
theorem zeB.prg {σ : List zc} {id : Nat} {T : zaq} {O : Nat → Prop} (h : zeB σ id T O) : ∃ m X, zez σ id m X T.last ∧ Rel X T.l := by
  obtain ⟨m, X, h1, h2, _⟩ := h
  exact ⟨m, X, h1, h2⟩
theorem zeB.srt {σ : List zc} {id : Nat} {T : zaq} {O : Nat → Prop} (h : zeB σ id T O) : ∀ x ∈ T.l, zfw Prod.fst x.groups := by
  obtain ⟨m, X, h1, h2⟩ := h.prg
  intro x hx
  obtain ⟨p, _, hr⟩ := h2.bw x hx
  exact hr.gr.sort
structure RcJ (B : List zc) (n : Nat) (b : Int) (l : List (List UInt8)) (i : Nat) (s : List zc) : Prop where
  len : B.length + 1 < s.length
  out : ∀ j, j < B.length → j ≠ n → j ≠ n + 1 → j ≠ n + 2 → j ≠ n + 3 → s[j]? = B[j]?
  a : s[n]? = some (.box [.own (n + 2) (atsE b i)])
  b : s[n + 1]? = some (.box [.own (n + 3) (zbK (l.take i))])
  ta : s[n + 2]? = some (.tok 1 i)
  tb : s[n + 3]? = some (.tok 1 i)
section

variable {σ : List zc} {id : Nat} {T : zaq} {O : Nat → Prop} {K : AV → List zc → Prop}

end

end Go.Proofs.Ythpnelbciibjeaa
