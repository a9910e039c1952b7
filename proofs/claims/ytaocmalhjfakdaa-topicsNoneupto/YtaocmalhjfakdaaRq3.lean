/- Contracts: requests sealed, and whether they are valid; a batch's number. -/
import Derived.Test.YtaocmalhjfakdaaId2
import Derived.Test.YtaocmalhjfakdaaOpC
set_option linter.all false
set_option maxRecDepth 100000
set_option linter.unusedSimpArgs false
set_option linter.unusedVariables false
namespace Go.Proofs.Ytaocmalhjfakdaa
open Go.AW

theorem zfk.put {σ : List zb} {id m t : Nat} {l : List (List UInt8)} (h : zfk σ id m t l) (l' : List (List UInt8)) : zfk (putTab σ id m t l') id m t l' := by
  obtain ⟨n1, n2, n3⟩ := h.ne
  have h1 := zF h.box; have h2 := zF h.map; have h3 := zF h.tok
  unfold putTab
  refine ⟨?_, ?_, ?_⟩
  · rw [List.getElem?_set_ne (Ne.symm n1), List.getElem?_set_self (by simpa using h1)]
  · rw [List.getElem?_set_self (by simpa using h2)]
  · rw [List.getElem?_set_ne n3, List.getElem?_set_ne n2, List.getElem?_set_self h3]
theorem zfo.put {σ : List zb} {id m t : Nat} {g : List zev} (h : zfo σ id m t g) (g' : List zev) : zfo (putLed σ id m t g') id m t g' := by
  obtain ⟨n1, n2, n3⟩ := h.ne
  have h1 := zF h.box; have h2 := zF h.map; have h3 := zF h.tok
  unfold putLed
  refine ⟨?_, ?_, ?_⟩
  · rw [List.getElem?_set_self (by simpa using h1)]
  · rw [List.getElem?_set_ne n1, List.getElem?_set_ne (Ne.symm n3), List.getElem?_set_self h2]
  · rw [List.getElem?_set_ne n2, List.getElem?_set_self (by simpa using h3)]
theorem apart2 {σ : List zb} {id m t id2 m2 t2 : Nat} {l : List (List UInt8)} {g : List zev} (hT : zfk σ id m t l) (hG : zfo σ id2 m2 t2 g) (h1 : id ≠ id2) (h2 : m ≠ m2) :
    (id ≠ m2 ∧ id ≠ t2) ∧ (m ≠ id2 ∧ m ≠ t2) ∧ (t ≠ id2 ∧ t ≠ m2 ∧ t ≠ t2) := by
  refine ⟨⟨?_, ?_⟩, ⟨?_, ?_⟩, ⟨?_, ?_, ?_⟩⟩ <;> intro e <;> subst e
  · have := hT.box; rw [hG.map] at this; cases this
  · have := hT.box; rw [hG.tok] at this; cases this
  · have := hT.map; rw [hG.box] at this; cases this
  · have := hT.map; rw [hG.tok] at this; cases this
  · have := hT.tok; rw [hG.box] at this; cases this
  · have := hT.tok; rw [hG.map] at this; cases this
  · have := hT.tok; rw [hG.tok] at this; cases this
theorem zfo.putTab {σ : List zb} {id m t id2 m2 t2 : Nat} {l : List (List UInt8)} {g : List zev} (hT : zfk σ id m t l) (hG : zfo σ id2 m2 t2 g) (h1 : id ≠ id2) (h2 : m ≠ m2) (l' : List (List UInt8)) :
    zfo (putTab σ id m t l') id2 m2 t2 g := by
  obtain ⟨⟨a1, a2⟩, ⟨b1, b2⟩, ⟨c1, c2, c3⟩⟩ := apart2 hT hG h1 h2
  unfold Go.Proofs.Ytaocmalhjfakdaa.putTab
  refine ⟨?_, ?_, ?_⟩
  · rw [List.getElem?_set_ne b1, List.getElem?_set_ne h1, List.getElem?_set_ne c1]; exact hG.box
  · rw [List.getElem?_set_ne h2, List.getElem?_set_ne a1, List.getElem?_set_ne c2]; exact hG.map
  · rw [List.getElem?_set_ne b2, List.getElem?_set_ne a2, List.getElem?_set_ne c3]; exact hG.tok
theorem zfk.putLed {σ : List zb} {id m t id2 m2 t2 : Nat} {l : List (List UInt8)} {g : List zev} (hT : zfk σ id m t l) (hG : zfo σ id2 m2 t2 g) (h1 : id ≠ id2) (h2 : m ≠ m2) (g' : List zev) :
    zfk (putLed σ id2 m2 t2 g') id m t l := by
  obtain ⟨⟨a1, a2⟩, ⟨b1, b2⟩, ⟨c1, c2, c3⟩⟩ := apart2 hT hG h1 h2
  unfold Go.Proofs.Ytaocmalhjfakdaa.putLed
  refine ⟨?_, ?_, ?_⟩
  · rw [List.getElem?_set_ne (Ne.symm h1), List.getElem?_set_ne (Ne.symm a2), List.getElem?_set_ne (Ne.symm a1)]; exact hT.box
  · rw [List.getElem?_set_ne (Ne.symm b1), List.getElem?_set_ne (Ne.symm b2), List.getElem?_set_ne (Ne.symm h2)]; exact hT.map
  · rw [List.getElem?_set_ne (Ne.symm c1), List.getElem?_set_ne (Ne.symm c3), List.getElem?_set_ne (Ne.symm c2)]; exact hT.tok

structure TabI (L : List (List UInt8)) : Prop where
  nd : L.Nodup
  len : L.length ≤ 1048576
  each : ∀ b ∈ L, b.length ≤ 1073741824
theorem TabI.nil : TabI [] := ⟨.nil, by simp, by simp⟩
theorem TabI.sum {L : List (List UInt8)} (h : TabI L) {b : List UInt8} (hb : b.length ≤ 1073741824) : TabI (sumL L b) := by
  unfold sumL
  cases ho : lookF L b with
  | some k => exact h
  | none =>
    simp only
    split
    · exact h
    · rename_i hl
      have hn : b ∉ L := fun hm => by
        obtain ⟨i, hi⟩ := List.mem_iff_getElem?.1 hm
        exact zkr ho hm
      refine ⟨?_, by simp; omega, fun x hx => ?_⟩
      · rw [List.nodup_append]
        refine ⟨h.nd, by simp, fun a ha c hc => ?_⟩
        simp at hc; subst hc
        exact fun e => hn (e ▸ ha)
      · rcases List.mem_append.1 hx with hx | hx
        · exact h.each x hx
        · simp at hx; subst hx; exact hb
end Go.Proofs.Ytaocmalhjfakdaa
