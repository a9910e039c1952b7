/- The kit's contracts of a library function, laid at this seat. -/
import Derived.Test.YtjjchfbckfopkaaGreatSh
import Derived.Shelf.SortM.Plain
import Derived.Shelf.SortM.SortNone
import Derived.Ground.SlgmProg
import Derived.Test.YtjjchfbckfopkaaGreatAwFrz
import Derived.Sort.Grow
set_option linter.all false
set_option maxRecDepth 100000
namespace Go.Proofs.YtjjchfbckfopkaaGreat
open Go.Shelf Go.Proofs
end Go.Proofs.YtjjchfbckfopkaaGreat

/- An end of a call that zmO all that it made: what the caller's objects name now lies there. -/
set_option linter.unusedSimpArgs false
set_option linter.unusedVariables false
namespace Go.AW
section
variable {P : Program} {σ : List zb}

def EndsA (K : AV → List zb → Prop) (out : Option (List AV)) (σ' : List zb) : Prop := match out with
  | some l => ∃ s, zjk [] σ' [] s ∧ K (dmT (zcm l)) s
  | none => False
theorem zfT {f : FuncId} {F : AF} {na : Nat} (hF : isFn P f F na) {as0 : List AV} (has : as0.length = na) {K : AV → List zb → Prop}
    (h : zdW σ.length σ → (∀ a ∈ as0, Low σ.length a) → awp P F.body (AtEnd fun fr' σ' => EndsA K (zlB fr' σ' F.res) σ') (zfD 0 as0) σ) : zn P f as0 σ K :=
  zjj hF has _ (fun {L w L' σ' w' fr' ts} S st S' F' hz => by
    unfold EndsA at hz
    split at hz
    · rename_i l hl
      obtain ⟨s, hw, hK⟩ := hz
      obtain ⟨L2, st2, S2, _⟩ := zfC hw S' (us := []) ⟨rfl, by simp⟩
      exact ⟨L2, s, l, dmT (zcm l), hl, st.trans st2, S2, fun v hr => zmm (st2.rv hr), hK⟩
    · exact hz.elim) h
theorem endsA {K : AV → List zb → Prop} {l : List AV} {s : List zb} (h : K (dmT (zcm l)) s) : EndsA K (some l) s := ⟨_, .refl _ _, h⟩
end


open Go.Sort

structure SortsC {α : Type} [Inhabited α] (P : Program) (f : FuncId) (enc : α → Value) (srt : List α → List α) : Prop where
  some : ∀ (blk off cap : Nat) (ss : List α) (W : World), Go.Sort.Holds enc W blk off ss.toArray → blk < W.heap.size → ss.length < 4611686018427387904 →
    Calls P f #[.slice (some ⟨blk, off, none⟩) ss.length cap] W fun e w' => e = .returned (.tuple #[]) ∧ ∃ k os, w' = grow (putRow enc (Go.Sort.ahead W k) blk off (srt ss).toArray) os
  none : ∀ (p : Option Addr) (cap : Nat) (W : World), Calls P f #[.slice p 0 cap] W fun e w' => e = .returned (.tuple #[]) ∧ w' = W
  len : ∀ l, (srt l).length = l.length
end Go.AW

/- slices.Sort of numbers: the kit's contract. -/
set_option maxRecDepth 100000
namespace Go.Proofs.YtjjchfbckfopkaaGreat
open Go.Shelf Go.Sort Go.RowKit Go.AW

end Go.Proofs.YtjjchfbckfopkaaGreat

/- Ends of calls that keep objects told at the end; a result whose rows are let go. -/
set_option linter.unusedSimpArgs false
set_option linter.unusedVariables false
namespace Go.AW
section
variable {P : Program} {σ : List zb}
end

end Go.AW
