/- slices.Sort of strings: the kit's contract. -/
import Derived.Test.YthpnelbciibjeaaSl
import Derived.Test.YthpnelbciibjeaaAwAll
import Derived.Shelf.SortM.Plain
import Derived.Shelf.SortM.SortNone
import Derived.Ground.SlgmProg
import Derived.Test.YthpnelbciibjeaaAwFrz
set_option linter.all false
set_option maxRecDepth 100000
namespace Go.Proofs.Ythpnelbciibjeaa
open Go.Shelf Go.Sort Go.RowKit Go.AW

theorem sortsS : SortsC Try.prog zbn encStr (fun ss => ss.mergeSort fun x y => decide (x ≤ y)) where
  some blk off cap ss W hH hblk hsz := AnyM.slices_Sort_string sortS blk off cap ss W hH hblk hsz
  none p cap W := AnyM.slices_Sort_string_none sortS p cap W
  len l := by simp
theorem rd_str (w : World) (O : Nat → Nat → Prop) (x : List UInt8) (v : Value) : RD w O (.str x) v ↔ v = encStr x := by
  constructor
  · intro h
    cases h
    rfl
  · rintro rfl
    exact .str x
theorem c_sortS {σ : List zc} {t g : Nat} {l : List (List UInt8)} (hσ : σ[t]? = some (.row g 1 (l.map fun x => .d (.str x)))) (hn : l.length < 4611686018427387904) {K : AV → List zc → Prop}
    (hK : K (.tup []) (σ.set t (.row g 1 ((l.mergeSort fun x y => decide (x ≤ y)).map fun x => .d (.str x))))) : zj Try.prog zbn [.rsl t g 1 0 l.length] σ K :=
  acall_sort rd_str (by decide +kernel) sortsS hσ hn hK
end Go.Proofs.Ythpnelbciibjeaa

/- Ends of calls that keep objects told at the end; a result whose rows are let go. -/
set_option linter.unusedSimpArgs false
set_option linter.unusedVariables false
namespace Go.AW
section
variable {P : Program} {σ : List zc}
theorem zj.frz {f : FuncId} {xs : List AV} {K : AV → List zc → Prop} (m : Nat) (h : zj P f xs σ fun r s => ∃ r', frzT s σ.length m r = some r' ∧ s.take σ.length = σ ∧ K r' σ) : zj P f xs σ K :=
  ⟨h.1, fun L w vs S hv => (h.2 L w vs S hv).mono fun e w' he => by
    cases e with
    | panicked _ => exact he
    | outgrown => exact he
    | returned v =>
      obtain ⟨L', σ', r, st, S', hr, r', hf, ht, hK⟩ := he
      have z2 : zfx σ.length (σ'.take σ.length) := by rw [ht]; exact S.lows
      have hS := S'.take z2
      have hst := st.take
      have hv := zmZ S' (L2 := L') (σ2 := σ'.take σ.length) (fun b o => zjg) (fun t x ht hx hk b o hf hown => by
        obtain ⟨id, y, hy, hfy⟩ := hown
        rw [List.getElem?_take] at hy
        split at hy
        · rename_i hid
          exact S'.apart id t y x b o (by omega) hy hx hfy hf
        · cases hy) hr hf
      rw [ht] at hS hst hv
      exact ⟨L', σ, r', hst, hS, hv, hK⟩⟩
end

end Go.AW
