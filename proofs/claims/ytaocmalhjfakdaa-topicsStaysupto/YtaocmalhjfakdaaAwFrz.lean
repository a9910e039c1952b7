/- Rows of the call's own that are let go: what they hold is data from then on. A function that only reads may be told of rows as of data. -/
import Derived.Test.YtaocmalhjfakdaaAwEnd
set_option linter.all false
set_option linter.unusedSimpArgs false
set_option linter.unusedVariables false
namespace Go.AW

section

variable {P : Program} {w : World} {L : Nat → Loc} {σ : List AObj}

end

section
variable {P : Program} {σ : List AObj}

theorem ACall.dm {f : FuncId} {xs : List AV} {K : AV → List AObj → Prop} (h : ACall P f (xs.map AW.dm) σ K) : ACall P f xs σ K :=
  ⟨h.1, fun L w vs S hv => h.2 L w vs S ⟨by rw [List.length_map]; exact hv.1, fun i a v ha hu => by
    simp only [List.getElem?_map, Option.map_eq_some_iff] at ha
    obtain ⟨a', ha', rfl⟩ := ha
    exact dm_sound (hv.2 i a' v ha' hu)⟩⟩

theorem ACall.pre {f : FuncId} {xs xs' : List AV} {σ' : List AObj} {K : AV → List AObj → Prop} (hw : Weak xs σ xs' σ') (h : ACall P f xs' σ' K) : ACall P f xs σ K :=
  ⟨h.1, fun L w vs S hv => by
    obtain ⟨L1, st, S1, hv1⟩ := weak_sound hw S hv
    refine (h.2 L1 w vs S1 hv1).mono fun e w' he => ?_
    cases e with
    | panicked _ => exact he
    | outgrown => exact he
    | returned v =>
      obtain ⟨L', s', r, st', S', hr, hK⟩ := he
      exact ⟨L', s', r, st.trans st', S', hr, hK⟩⟩
theorem Lows.setO {n : Nat} (h : Lows n σ) {id : Nat} {x : AObj} (hx : LowO n x) : Lows n (σ.set id x) := Lows.set h hx
theorem set_same {α : Type} {σ : List α} {id : Nat} {x : α} (h : σ[id]? = some x) : σ.set id x = σ := by
  obtain ⟨hl, hh⟩ := List.getElem?_eq_some_iff.1 h
  rw [← hh]; exact List.set_getElem_self hl
theorem lt_len {α : Type} {σ : List α} {id : Nat} {x : α} (h : σ[id]? = some x) : id < σ.length := (List.getElem?_eq_some_iff.1 h).1
end

end Go.AW
