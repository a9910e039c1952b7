/- Contracts: requests sealed, and whether they are valid; a batch's number. -/
import Derived.Test.YtjjchfbckfopkaaGreatId4
import Derived.Test.YtjjchfbckfopkaaGreatRq2
set_option linter.all false
set_option maxRecDepth 100000
set_option linter.unusedSimpArgs false
set_option linter.unusedVariables false
namespace Go.Proofs.YtjjchfbckfopkaaGreat
open Go.AW

theorem zcF.put {σ : List zb} {id m t : Nat} {l : List (List UInt8)} (h : zcF σ id m t l) (l' : List (List UInt8)) : zcF (putTab σ id m t l') id m t l' := by
  obtain ⟨n1, n2, n3⟩ := h.ne
  have h1 := zdt h.box; have h2 := zdt h.map; have h3 := zdt h.tok
  unfold putTab
  refine ⟨?_, ?_, ?_⟩
  · rw [List.getElem?_set_ne (Ne.symm n1), List.getElem?_set_self (by simpa using h1)]
  · rw [List.getElem?_set_self (by simpa using h2)]
  · rw [List.getElem?_set_ne n3, List.getElem?_set_ne n2, List.getElem?_set_self h3]
theorem zcS.put {σ : List zb} {id m t : Nat} {g : List zO} (h : zcS σ id m t g) (g' : List zO) : zcS (putLed σ id m t g') id m t g' := by
  obtain ⟨n1, n2, n3⟩ := h.ne
  have h1 := zdt h.box; have h2 := zdt h.map; have h3 := zdt h.tok
  unfold putLed
  refine ⟨?_, ?_, ?_⟩
  · rw [List.getElem?_set_self (by simpa using h1)]
  · rw [List.getElem?_set_ne n1, List.getElem?_set_ne (Ne.symm n3), List.getElem?_set_self h2]
  · rw [List.getElem?_set_ne n2, List.getElem?_set_self (by simpa using h3)]
theorem apart2 {σ : List zb} {id m t id2 m2 t2 : Nat} {l : List (List UInt8)} {g : List zO} (hT : zcF σ id m t l) (hG : zcS σ id2 m2 t2 g) (h1 : id ≠ id2) (h2 : m ≠ m2) :
    (id ≠ m2 ∧ id ≠ t2) ∧ (m ≠ id2 ∧ m ≠ t2) ∧ (t ≠ id2 ∧ t ≠ m2 ∧ t ≠ t2) := by
  refine ⟨⟨?_, ?_⟩, ⟨?_, ?_⟩, ⟨?_, ?_, ?_⟩⟩ <;> intro e <;> subst e
  · have := hT.box; rw [hG.map] at this; cases this
  · have := hT.box; rw [hG.tok] at this; cases this
  · have := hT.map; rw [hG.box] at this; cases this
  · have := hT.map; rw [hG.tok] at this; cases this
  · have := hT.tok; rw [hG.box] at this; cases this
  · have := hT.tok; rw [hG.map] at this; cases this
  · have := hT.tok; rw [hG.tok] at this; cases this
theorem zcS.putTab {σ : List zb} {id m t id2 m2 t2 : Nat} {l : List (List UInt8)} {g : List zO} (hT : zcF σ id m t l) (hG : zcS σ id2 m2 t2 g) (h1 : id ≠ id2) (h2 : m ≠ m2) (l' : List (List UInt8)) :
    zcS (putTab σ id m t l') id2 m2 t2 g := by
  obtain ⟨⟨a1, a2⟩, ⟨b1, b2⟩, ⟨c1, c2, c3⟩⟩ := apart2 hT hG h1 h2
  unfold Go.Proofs.YtjjchfbckfopkaaGreat.putTab
  refine ⟨?_, ?_, ?_⟩
  · rw [List.getElem?_set_ne b1, List.getElem?_set_ne h1, List.getElem?_set_ne c1]; exact hG.box
  · rw [List.getElem?_set_ne h2, List.getElem?_set_ne a1, List.getElem?_set_ne c2]; exact hG.map
  · rw [List.getElem?_set_ne b2, List.getElem?_set_ne a2, List.getElem?_set_ne c3]; exact hG.tok
theorem zcF.putLed {σ : List zb} {id m t id2 m2 t2 : Nat} {l : List (List UInt8)} {g : List zO} (hT : zcF σ id m t l) (hG : zcS σ id2 m2 t2 g) (h1 : id ≠ id2) (h2 : m ≠ m2) (g' : List zO) :
    zcF (putLed σ id2 m2 t2 g') id m t l := by
  obtain ⟨⟨a1, a2⟩, ⟨b1, b2⟩, ⟨c1, c2, c3⟩⟩ := apart2 hT hG h1 h2
  unfold Go.Proofs.YtjjchfbckfopkaaGreat.putLed
  refine ⟨?_, ?_, ?_⟩
  · rw [List.getElem?_set_ne (Ne.symm h1), List.getElem?_set_ne (Ne.symm a2), List.getElem?_set_ne (Ne.symm a1)]; exact hT.box
  · rw [List.getElem?_set_ne (Ne.symm b1), List.getElem?_set_ne (Ne.symm b2), List.getElem?_set_ne (Ne.symm h2)]; exact hT.map
  · rw [List.getElem?_set_ne (Ne.symm c1), List.getElem?_set_ne (Ne.symm c3), List.getElem?_set_ne (Ne.symm c2)]; exact hT.tok

def noSg : ze := ⟨0, 0, noOp, 0, 0⟩
def zkW (L : List (List UInt8)) (x : ze) : Int := if zB x ≠ 0 then zB x else zdm (keyF x.client) (zgO L (zkx x))
def znV (L : List (List UInt8)) (x : ze) : ze := if zkW L x = 0 then ⟨x.client, x.time, x.op, keyF x.client, zgO L (zkx x)⟩ else noSg
def sealL (L : List (List UInt8)) (x : ze) : List (List UInt8) := if zB x ≠ 0 then L else ziG L (zkx x)
def znW (L : List (List UInt8)) (G : List zO) (x : ze) : List zO := if zB x ≠ 0 then G else zeP G (keyF x.client) (zgO L (zkx x))
structure TabI (L : List (List UInt8)) : Prop where
  nd : L.Nodup
  len : L.length ≤ 1048576
  each : ∀ b ∈ L, b.length ≤ 1073741824
theorem TabI.nil : TabI [] := ⟨.nil, by simp, by simp⟩
theorem TabI.sum {L : List (List UInt8)} (h : TabI L) {b : List UInt8} (hb : b.length ≤ 1073741824) : TabI (ziG L b) := by
  unfold ziG
  cases ho : zdE L b with
  | some k => exact h
  | none =>
    simp only
    split
    · exact h
    · rename_i hl
      have hn : b ∉ L := fun hm => by
        obtain ⟨i, hi⟩ := List.mem_iff_getElem?.1 hm
        exact zol ho hm
      refine ⟨?_, by simp; omega, fun x hx => ?_⟩
      · rw [List.nodup_append]
        refine ⟨h.nd, by simp, fun a ha c hc => ?_⟩
        simp at hc; subst hc
        exact fun e => hn (e ▸ ha)
      · rcases List.mem_append.1 hx with hx | hx
        · exact h.each x hx
        · simp at hx; subst hx; exact hb
end Go.Proofs.YtjjchfbckfopkaaGreat
