/- At most once: no program in sight. -/
import Derived.Test.YtaocmalhjfakdaaSpPrg
import Derived.Test.YtaocmalhjfakdaaLaw07a
import Derived.Test.YtaocmalhjfakdaaKs4
set_option linter.all false
set_option linter.unusedSimpArgs false
set_option linter.unusedVariables false
namespace Go.AW

end Go.AW

/- The law TopicsOnce, from the contracts. -/
set_option maxRecDepth 100000
set_option linter.unusedSimpArgs false
set_option linter.unusedVariables false
namespace Go.Proofs.Ytaocmalhjfakdaa
open Go.AW

abbrev keyA (k : Int × Int) : AV := .agg [.d (.int .i64 k.1), .d (.int .i64 k.2)]
abbrev doneM (D : List ((Int × Int) × Bool)) : List (AV × AV) := D.map fun e => (keyA e.1, .d (.bool e.2))
theorem lastI_none7 : LastI zcw.last := fun a ha => by
  simp only [zcw, List.mem_replicate] at ha
  rw [ha.2]; simp
structure zmN (S : List zb) (id am : Nat) (T : zP) (D : List ((Int × Int) × Bool)) (O : Nat → Prop) : Prop where
  top : zdm S id T O
  map : S[am]? = some (.map (doneM D))
  own : ¬ O am
theorem zmN.app {S : List zb} {id am : Nat} {T : zP} {D : List ((Int × Int) × Bool)} {O : Nat → Prop} (h : zmN S id am T D O) (τ : List zb) : zmN (S ++ τ) id am T D O := ⟨h.top.app τ, ze h.map, h.own⟩
theorem zmN.after {S S' : List zb} {id am : Nat} {T T' : zP} {D : List ((Int × Int) × Bool)} {O : Nat → Prop} (h : zmN S id am T D O) (hA : After S id T' O S') : ∃ O', zmN S' id am T' D O' ∧ StO S S' O ∧ ∀ j, O' j → O j ∨ S.length ≤ j := by
  obtain ⟨O', h1, h2, h3⟩ := hA
  refine ⟨O', ⟨h1, h2.at_ h.map h.own, fun hj => ?_⟩, h2, h3⟩
  have := zh h.map
  exact (h3 _ hj).elim h.own fun h => by omega
theorem zmN.put {S : List zb} {id am : Nat} {T : zP} {D : List ((Int × Int) × Bool)} {O : Nat → Prop} (h : zmN S id am T D O) (D' : List ((Int × Int) × Bool)) : zmN (S.set am (.map (doneM D'))) id am T D' O :=
  ⟨h.top.set h.own _, List.getElem?_set_self (zh h.map), h.own⟩
end Go.Proofs.Ytaocmalhjfakdaa
