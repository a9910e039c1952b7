/- slices.Sort of numbers: the kit's contract. -/
import Derived.Test.YtjjchfbckfopkaaGreatPr3
import Derived.Test.YtjjchfbckfopkaaGreatAwAll
import Derived.Shelf.SortM.Plain
import Derived.Shelf.SortM.SortNone
import Derived.Ground.SlgmProg
import Derived.Test.YtjjchfbckfopkaaGreatAwFrz
set_option linter.all false
set_option maxRecDepth 100000
namespace Go.Proofs.YtjjchfbckfopkaaGreat
open Go.Shelf Go.Sort Go.RowKit Go.AW

theorem sortsI : SortsC Tryz.prog zbQ (Value.int IntKind.i64) (fun zs => zs.mergeSort fun x y => decide (x ≤ y)) where
  some blk off cap zs W hH hblk hsz := AnyM.slices_Sort_int sortI blk off cap zs W hH hblk hsz
  none p cap W := AnyM.slices_Sort_int_none sortI p cap W
  len l := by simp
theorem rd_int (w : World) (O : Nat → Nat → Prop) (x : Int) (v : Value) : RD w O (.int .i64 x) v ↔ v = Value.int IntKind.i64 x := by
  constructor
  · intro h
    cases h
    rfl
  · rintro rfl
    exact .int _ x
theorem c_sortI {σ : List zb} {t g : Nat} {l : List Int} (hσ : σ[t]? = some (.row g 1 (l.map fun x => .d (.int .i64 x)))) (hn : l.length < 4611686018427387904) {K : AV → List zb → Prop}
    (hK : K (.tup []) (σ.set t (.row g 1 ((l.mergeSort fun x y => decide (x ≤ y)).map fun x => .d (.int .i64 x))))) : zp Tryz.prog zbQ [.rsl t g 1 0 l.length] σ K :=
  acall_sort (dA := fun x => .int .i64 x) rd_int (by decide +kernel) sortsI hσ hn hK
end Go.Proofs.YtjjchfbckfopkaaGreat

/- Ends of calls that keep objects told at the end; a result whose rows are let go. -/
set_option linter.unusedSimpArgs false
set_option linter.unusedVariables false
namespace Go.AW
section
variable {P : Program} {σ : List zb}
theorem zp.frz {f : FuncId} {xs : List AV} {K : AV → List zb → Prop} (m : Nat) (h : zp P f xs σ fun r s => ∃ r', frzT s σ.length m r = some r' ∧ s.take σ.length = σ ∧ K r' σ) : zp P f xs σ K :=
  ⟨h.1, fun L w vs S hv => (h.2 L w vs S hv).mono fun e w' he => by
    cases e with
    | panicked _ => exact he
    | outgrown => exact he
    | returned v =>
      obtain ⟨L', σ', r, st, S', hr, r', hf, ht, hK⟩ := he
      have z2 : zdP σ.length (σ'.take σ.length) := by rw [ht]; exact S.lows
      have hS := S'.take z2
      have hst := st.take
      have hv := zot S' (L2 := L') (σ2 := σ'.take σ.length) (fun b o => zju) (fun t x ht hx hk b o hf hown => by
        obtain ⟨id, y, hy, hfy⟩ := hown
        rw [List.getElem?_take] at hy
        split at hy
        · rename_i hid
          exact S'.apart id t y x b o (by omega) hy hx hfy hf
        · cases hy) hr hf
      rw [ht] at hS hst hv
      exact ⟨L', σ, r', hst, hS, hv, hK⟩⟩
end

end Go.AW
