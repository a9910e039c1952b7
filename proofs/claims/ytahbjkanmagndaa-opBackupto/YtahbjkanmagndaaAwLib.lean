/- Rules by which conditions are reckoned out, and bytes. -/
import Derived.Test.YtahbjkanmagndaaAwTok
import Derived.Test.YtahbjkanmagndaaAwShal
import Derived.IntWalk
set_option linter.all false
set_option linter.unusedSimpArgs false
set_option linter.unusedVariables false
namespace Go.AW

/-- bytes as cells -/
abbrev bcs (bs : List UInt8) : List (List D) := bs.map byteCell
theorem bcs_one {bs : List UInt8} : ∀ e ∈ bcs bs, e.length = 1 := by
  intro e he
  obtain ⟨b, _, rfl⟩ := List.mem_map.1 he
  rfl
theorem bytesOf_bcs (bs : List UInt8) : bytesOf (bcs bs) = some bs := by
  induction bs with
  | nil => rfl
  | cons b bs ih =>
    simp only [bcs] at ih
    simp only [bcs, List.map_cons, byteCell, bytesOf, ih, Option.map_some]
    simp
theorem bcs_append (a b : List UInt8) : bcs a ++ bcs b = bcs (a ++ b) := by simp [bcs]
theorem bcs_inj {a b : List UInt8} (h : bcs a = bcs b) : a = b := by
  have h1 := bytesOf_bcs a
  rw [h, bytesOf_bcs b] at h1
  exact (Option.some.inj h1).symm

theorem get_app {α : Type} (σ τ : List α) (k : Nat) : (σ ++ τ)[σ.length + k]? = τ[k]? := by
  rw [List.getElem?_append_right (by omega), Nat.add_sub_cancel_left]
theorem get_app0 {α : Type} (σ τ : List α) : (σ ++ τ)[σ.length]? = τ[0]? := by
  rw [List.getElem?_append_right (by omega), Nat.sub_self]
theorem set_app {α : Type} (σ τ : List α) (k : Nat) (x : α) : (σ ++ τ).set (σ.length + k) x = σ ++ τ.set k x := by
  rw [List.set_append_right _ _ (by omega), Nat.add_sub_cancel_left]
theorem set_app0 {α : Type} (σ τ : List α) (x : α) : (σ ++ τ).set σ.length x = σ ++ τ.set 0 x := by
  rw [List.set_append_right _ _ (by omega), Nat.sub_self]
theorem len_app {α : Type} (σ τ : List α) : (σ ++ τ).length = σ.length + τ.length := by simp
theorem get_left {α : Type} {σ τ : List α} {id : Nat} {x : α} (h : σ[id]? = some x) : (σ ++ τ)[id]? = some x := by
  rw [List.getElem?_append_left (List.getElem?_eq_some_iff.1 h).1]; exact h
theorem set_left {α : Type} {σ τ : List α} {id : Nat} {x y : α} (h : σ[id]? = some x) : (σ ++ τ).set id y = σ.set id y ++ τ := by
  rw [List.set_append_left _ _ (List.getElem?_eq_some_iff.1 h).1]
theorem map_dm1_d (ds : List D) : (ds.map AV.d).map dm1 = ds.map AV.d := by simp [Function.comp_def, dm1]
theorem low_map_d (n : Nat) (ds : List D) : ∀ c ∈ ds.map AV.d, Low n c := by
  intro c hc
  obtain ⟨d, _, rfl⟩ := List.mem_map.1 hc
  exact .d _
/-- a parting whose arms the rewriting does not enter -/
inductive Tag {α : Sort _} (p : α) : Type
  | mk
def BBL (b : Bool) (p q : Prop) (_ : Tag p) (_ : Tag q) : Prop := BB b p q
def ACallL (P : Program) (f : FuncId) (as_ : List AV) (σ : List AObj) (K : AV → List AObj → Prop) (_ : Tag K) : Prop := ACall P f as_ σ K
theorem acallL (P : Program) (f : FuncId) (as_ : List AV) (σ : List AObj) (K : AV → List AObj → Prop) : ACall P f as_ σ K = ACallL P f as_ σ K .mk := rfl
def loopCL (init : List AV) (σ : List AObj) (round : List AV → List AObj → (List AV → List AObj → Prop) → Prop) (_ : Tag round) : Prop := loopC init σ round
theorem loopL (init : List AV) (σ : List AObj) (round : List AV → List AObj → (List AV → List AObj → Prop) → Prop) : loopC init σ round = loopCL init σ round .mk := rfl
theorem BBL_true (p q : Prop) (t : Tag p) (u : Tag q) : BBL true p q t u = p := BB_true p q
theorem BBL_false (p q : Prop) (t : Tag p) (u : Tag q) : BBL false p q t u = q := BB_false p q
theorem BBL_intro {b : Bool} {p q : Prop} {t : Tag p} {u : Tag q} (h1 : b = true → p) (h2 : b = false → q) : BBL b p q t u := ⟨h1, h2⟩
theorem BBL_not (b : Bool) (p q : Prop) (t : Tag p) (u : Tag q) : BBL (!b) p q t u = BBL b q p u t := BB_not b p q
theorem guardC_T (b : Bool) (body : KT → Prop) (σ : List AObj) (K : KT) : guardC (.d (.bool b)) true body σ K = BBL b (body K) (K (.tup []) σ) .mk .mk := by
  simp only [guardC, BB_beqT]; rfl
theorem guardC_F (b : Bool) (body : KT → Prop) (σ : List AObj) (K : KT) : guardC (.d (.bool b)) false body σ K = BBL b (K (.tup []) σ) (body K) .mk .mk := by
  simp only [guardC, BB_beqF]; rfl
theorem guardC_0 (w : Bool) (body : KT → Prop) (σ : List AObj) (K : KT) : guardC (.tup []) w body σ K = K (.tup []) σ := rfl
theorem condC_b (b : Bool) (p q : Prop) : condC (.d (.bool b)) p q = BBL b p q .mk .mk := rfl
theorem pickC_b (b : Bool) (x y : AV) (σ : List AObj) (K : KT) : pickC (.d (.bool b)) x y σ K = BBL b (K x σ) (K y σ) .mk .mk := rfl
theorem pack1 (a : AV) : pack [a] = a := rfl
theorem take_app (σ τ : List AObj) : (σ ++ τ).take σ.length = σ := by simp
theorem Low_fn (n : Nat) (f : Fn) : Low n (.fn f [] []) = True := eq_true (.fn f [] [] (by simp) (by simp))

/-- the end of a call that hands back data and leaves nothing behind -/
theorem ends_plain {σ τ : List AObj} {K : AV → List AObj → Prop} {l : List AV} (h1 : Low σ.length (dmT (pack l))) (hl : Lows σ.length σ) (h : K (dmT (pack l)) σ) : Ends σ.length K (some l) (σ ++ τ) := by
  unfold Ends
  rw [take_app]
  exact ⟨h1, hl, h⟩
theorem ends_plain0 {σ : List AObj} {K : AV → List AObj → Prop} {l : List AV} (h1 : Low σ.length (dmT (pack l))) (hl : Lows σ.length σ) (h : K (dmT (pack l)) σ) : Ends σ.length K (some l) σ := by
  unfold Ends
  rw [List.take_length]
  exact ⟨h1, hl, h⟩

theorem endsL_none {σ τ : List AObj} {K : AV → List AObj → Prop} {l : List AV} {r : AV} (hl : Lows σ.length σ) (hr : renAV (renId σ.length []) (pack l) = some r) (h : K r σ) : EndsL σ.length [] K (some l) (σ ++ τ) := by
  simp only [EndsL, getL, renOs, hr, take_app]
  refine ⟨by simp, hl, by simp, by simp, by simpa using h⟩
theorem endsL_none0 {σ : List AObj} {K : AV → List AObj → Prop} {l : List AV} {r : AV} (hl : Lows σ.length σ) (hr : renAV (renId σ.length []) (pack l) = some r) (h : K r σ) : EndsL σ.length [] K (some l) σ := by
  have := endsL_none (τ := []) hl hr h
  simpa using this
theorem endsL_own {σ τ : List AObj} {K : AV → List AObj → Prop} {t sz n : Nat} {es : List (List D)} (hl : Lows σ.length σ) (ht : σ.length ≤ t) (hg : (σ ++ τ)[t]? = some (.tok sz n)) (h : K (.own σ.length es) (σ ++ [.tok sz n])) :
    EndsL σ.length [t] K (some [.own t es]) (σ ++ τ) := by
  have h1 : ¬ t < σ.length := by omega
  simp only [EndsL, getL, hg, renOs, renO, pack, renAV, renId, idxK, h1, if_false, if_true, take_app]
  exact ⟨by simp, hl, by simpa using ht, by simp, h⟩

theorem endsK_none {σ τ : List AObj} {ks : List AObj → List Nat} {K : AV → List AObj → Prop} {l : List AV} {r : AV} (hks : ks (σ ++ τ) = []) (hl : Lows σ.length σ) (hr : renAV (renId σ.length []) (pack l) = some r) (h : K r σ) : EndsK σ.length ks K (some l) (σ ++ τ) := by
  unfold EndsK; rw [hks]; exact endsL_none hl hr h
theorem endsK_none0 {σ : List AObj} {ks : List AObj → List Nat} {K : AV → List AObj → Prop} {l : List AV} {r : AV} (hks : ks σ = []) (hl : Lows σ.length σ) (hr : renAV (renId σ.length []) (pack l) = some r) (h : K r σ) : EndsK σ.length ks K (some l) σ := by
  unfold EndsK; rw [hks]; exact endsL_none0 hl hr h
theorem endsK_own {σ τ : List AObj} {ks : List AObj → List Nat} {K : AV → List AObj → Prop} {t sz n : Nat} {es : List (List D)} (hks : ks (σ ++ τ) = [t]) (hl : Lows σ.length σ) (ht : σ.length ≤ t) (hg : (σ ++ τ)[t]? = some (.tok sz n)) (h : K (.own σ.length es) (σ ++ [.tok sz n])) :
    EndsK σ.length ks K (some [.own t es]) (σ ++ τ) := by
  unfold EndsK; rw [hks]; exact endsL_own hl ht hg h

theorem endsK_own1 {σ : List AObj} {ks : List AObj → List Nat} {K : AV → List AObj → Prop} {sz n : Nat} {es : List (List D)} (hl : Lows σ.length σ) (hks : ks (σ ++ [.tok sz n]) = [σ.length]) (h : K (.own σ.length es) (σ ++ [.tok sz n])) :
    EndsK σ.length ks K (some [.own σ.length es]) (σ ++ [.tok sz n]) := endsK_own hks hl (Nat.le_refl _) List.getElem?_concat_length h

/-- a loop over a counter that rises to N at most: what its slots and its objects are at each round -/
def Again (N : Nat) (I : Nat → List AV → List AObj → Prop) (k : Nat) (vs : List AV) (s : List AObj) : Prop := ∃ n', n' < N - k ∧ ∃ k', k' ≤ N ∧ n' = N - k' ∧ I k' vs s
theorem Again.next {N : Nat} {I : Nat → List AV → List AObj → Prop} {k : Nat} {vs : List AV} {s : List AObj} (hk : k < N) (h : I (k + 1) vs s) : Again N I k vs s :=
  ⟨N - (k + 1), by omega, k + 1, by omega, rfl, h⟩
theorem Again.to {N : Nat} {I : Nat → List AV → List AObj → Prop} {k : Nat} {vs : List AV} {s : List AObj} (k' : Nat) (hk : k < k') (hk' : k' ≤ N) (h : I k' vs s) : Again N I k vs s :=
  ⟨N - k', by omega, k', by omega, rfl, h⟩
theorem loopC_count {init : List AV} {σ : List AObj} {round : List AV → List AObj → (List AV → List AObj → Prop) → Prop} (N : Nat) (I : Nat → List AV → List AObj → Prop)
    (h0 : I 0 init σ) (h : ∀ k vs s, k ≤ N → I k vs s → round vs s (Again N I k)) : loopC init σ round := by
  refine ⟨fun n vs s => ∃ k, k ≤ N ∧ n = N - k ∧ I k vs s, N, ⟨0, Nat.zero_le _, rfl, h0⟩, ?_⟩
  rintro n vs s ⟨k, hk, rfl, hI⟩
  exact h k vs s hk hI

theorem headC_cons (a : AV) (l : List AV) (k : AV → List AV → Prop) : headC (a :: l) k = k a l := rfl
theorem cast_bool_true {p q : Prop} (h : BB true p q) : p := h.1 rfl

end Go.AW
