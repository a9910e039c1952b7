/- The law RequestSeals, from the contracts. -/
import Derived.Test.YthmdpooklflkfaaLaw08a
set_option linter.all false
set_option maxRecDepth 100000
set_option linter.unusedSimpArgs false
set_option linter.unusedVariables false
namespace Go.Proofs.Ythmdpooklflkfaa
open Go.AW

/-- what stands at the beginning of a round: a table, a ledger, the document's, the end of a row -/
structure SealsI (σ : List AObj) (a : Nat) (x0 : AObj) (s : List AObj) (L : List (List UInt8)) (G : List TSign) (n : Nat) : Prop where
  tl : TLs a s L G
  rt : s[a + 6]? = some (rtO L)
  rl : s[a + 7]? = some (rlO G)
  tk : s[a + 8]? = some (.tok 9 n)
  bx : s[σ.length]? = some x0
  pre : ∃ T, s = σ ++ T
theorem pre_set {σ s : List AObj} {i : Nat} (h : ∃ T, s = σ ++ T) (hi : σ.length ≤ i) (x : AObj) : ∃ T, s.set i x = σ ++ T := by
  obtain ⟨T, rfl⟩ := h
  exact ⟨_, List.set_append_right _ _ hi⟩
theorem TLs.set {a i : Nat} {s : List AObj} {L : List (List UInt8)} {G : List TSign} (h : TLs a s L G) (hi : a + 6 ≤ i) (x : AObj) : TLs a (s.set i x) L G := by
  refine ⟨⟨?_, ?_, ?_⟩, ⟨?_, ?_, ?_⟩⟩ <;> rw [List.getElem?_set_ne (by omega)]
  · exact h.tab.box
  · exact h.tab.map
  · exact h.tab.tok
  · exact h.led.box
  · exact h.led.map
  · exact h.led.tok
theorem SealsI.put {σ : List AObj} {a : Nat} {x0 : AObj} {s : List AObj} {L : List (List UInt8)} {G : List TSign} {n : Nat} (h : SealsI σ a x0 s L G n) (ha : a = σ.length + 1) (L' : List (List UInt8)) (G' : List TSign) :
    SealsI σ a x0 (((putTL a s L' G').set (a + 6) (rtO L')).set (a + 7) (rlO G')) L' G' n := by
  have hn : ∀ k, k < a ∨ a + 6 ≤ k → (putTL a s L' G')[k]? = s[k]? := fun k hk => putTL_ne hk L' G'
  have h6 := lt_len h.rt
  have h7 := lt_len h.rl
  have hl := putTL_len a s L' G'
  obtain ⟨T, hT⟩ := h.pre
  have hp := putTL_pre (a := a) (σ := σ) (T := T) (by omega) L' G'
  rw [← hT] at hp
  refine ⟨((h.tl.put L' G').set (by omega) _).set (by omega) _, ?_, ?_, ?_, ?_, pre_set (pre_set hp (by omega) _) (by omega) _⟩
  · rw [List.getElem?_set_ne (by omega), List.getElem?_set_self (by omega)]
  · rw [List.getElem?_set_self (by simp; omega)]
  · rw [List.getElem?_set_ne (by omega), List.getElem?_set_ne (by omega), hn _ (by omega)]; exact h.tk
  · rw [List.getElem?_set_ne (by omega), List.getElem?_set_ne (by omega), hn _ (by omega)]; exact h.bx
theorem SealsI.app {σ : List AObj} {a : Nat} {x0 : AObj} {s : List AObj} {L : List (List UInt8)} {G : List TSign} {n : Nat} (h : SealsI σ a x0 s L G n) (τ : List AObj) : SealsI σ a x0 (s ++ τ) L G n := by
  obtain ⟨T, hT⟩ := h.pre
  exact ⟨h.tl.app τ, get_left h.rt, get_left h.rl, get_left h.tk, get_left h.bx, ⟨T ++ τ, by rw [hT, List.append_assoc]⟩⟩
theorem seal_sz {L : List (List UInt8)} {x : TSigned} (hx : opSz x.op ≤ 20971520) : opSz (sealS L x).op ≤ 20971520 := by
  unfold sealS
  split
  · exact hx
  · decide
theorem small1 {x : TSigned} (hx : opSz x.op ≤ 20971520) : smallB [x] := by
  have := sizes hx
  exact ⟨by simp, by simpa using ⟨this.2.2.1, this.2.2.2⟩⟩
end Go.Proofs.Ythmdpooklflkfaa
