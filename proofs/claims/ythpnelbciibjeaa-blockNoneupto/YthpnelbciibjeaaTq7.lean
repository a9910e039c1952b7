/- Contracts: the program's topics: an operation is done. -/
import Derived.Test.YthpnelbciibjeaaTq6
import Derived.Test.YthpnelbciibjeaaOp1
set_option linter.all false
set_option maxRecDepth 100000
set_option linter.unusedSimpArgs false
set_option linter.unusedVariables false
namespace Go.Proofs.Ythpnelbciibjeaa
open Go.AW

section
variable {σ τ S : List zc} {id m : Nat} {X : List zcH} {T T' : zaq} {O : Nat → Prop} {K : AV → List zc → Prop}
theorem After.back (h : After (σ ++ τ) id T' O S) : After σ id T' O S := by
  obtain ⟨O', h1, h2, h3⟩ := h
  exact ⟨O', h1, ⟨by have := h2.len; simp at this; omega, fun j hj hlt => (h2.get j hj (by simp; omega)).trans (List.getElem?_append_left hlt)⟩, fun j hj => (h3 j hj).imp_right fun h => by simp at h; omega⟩
theorem After.app (h : After σ id T' O S) (τ : List zc) : After σ id T' O (S ++ τ) := by
  obtain ⟨O', h1, h2, h3⟩ := h
  exact ⟨O', h1.app τ, ⟨by have := h2.len; simp; omega, fun j hj hlt => by rw [List.getElem?_append_left (by have := h2.len; omega)]; exact h2.get j hj hlt⟩, h3⟩
theorem After.at_ (h : After (σ ++ τ) id T' O S) (hO : zeB σ id T O) {j : Nat} (h1 : σ.length ≤ j) (h2 : j < (σ ++ τ).length) : S[j]? = (σ ++ τ)[j]? := by
  obtain ⟨O', h3, h4, h5⟩ := h
  exact h4.get j (fun h => by have := hO.own_lt h; omega) h2
theorem After.setB (h : After (σ ++ τ) id T' O S) (hO : zeB σ id T O) {j : Nat} (h1 : σ.length ≤ j) (h2 : j < (σ ++ τ).length) (Y : zc) : After σ id T' O (S.set j Y) := by
  obtain ⟨O', h3, h4, h5⟩ := h
  refine ⟨O', h3.set (fun hj => ?_) Y, ⟨by have := h4.len; simp at this ⊢; omega, fun i hi hlt => ?_⟩, fun i hi => (h5 i hi).imp_right fun h => by simp at h; omega⟩
  · rcases h5 j hj with h | h
    · have := hO.own_lt h; omega
    · omega
  · rw [List.getElem?_set_ne (by omega)]
    exact (h4.get i hi (by simp; omega)).trans (List.getElem?_append_left hlt)
theorem createF_ok (n : List UInt8) : (zcl T n).1.2 = 0 := by
  unfold zcl
  split
  · rfl
  · split <;> rfl
theorem pubF_ok (o : TOp) : (znD T o).1.1 ≠ 0 → (znD T o).1.2 = 0 ∧ (znD T o).2.1 = [] := by
  unfold znD zdy
  split
  · simp
  · split
    · simp
    · split <;> simp
theorem comF_ok (o : TOp) : (zmC T o).1.1 ≠ 0 → (zmC T o).1.2 = 0 := by
  unfold zmC zdm
  split
  · simp
  · split
    · simp
    · split
      · simp
      · split <;> simp
theorem trmF_ok (o : TOp) : (trmF T o).1.1 ≠ 0 → (trmF T o).1.2 = 0 := by
  unfold trmF zle
  split
  · simp
  · split
    · simp
    · split <;> simp
theorem doesF_eq (o : TOp) (h : zai zcs o = 0) : zbF T o = if o.kind = 0 then ((0, 0), [], T) else if o.kind = 1 then ((zcl T o.topic).1, [], (zcl T o.topic).2)
    else if o.kind = 2 then znD T o else if o.kind = 3 then ((zmC T o).1, [], (zmC T o).2) else ((trmF T o).1, [], (trmF T o).2) := by
  rw [zbF, if_neg (by simp [h])]
  by_cases k0 : o.kind = 0
  · rw [if_pos k0, if_pos k0]
  rw [if_neg k0, if_neg k0]
  by_cases k1 : o.kind = 1
  · rw [if_pos k1, if_pos k1]
  rw [if_neg k1, if_neg k1, znD, zmC, trmF]
  cases atF o.topic T.l 0 with
  | none => simp only []; (repeat' split) <;> rfl
  | some i =>
    simp only []
    cases hx : T.l[i]? with
    | none => simp only []; (repeat' split) <;> rfl
    | some x => rfl
theorem c_tpDoes {o : TOp} (hO : zeB σ id T O) (hI : zdQ T) (h1 : o.topic.length ≤ 1073741824) (h2 : o.group.length ≤ 1073741824) (ho : o.recs.length ≤ 20971520) (hr : ∀ r ∈ o.recs, r.length ≤ 1073741824)
    (hK : ∀ S, After σ id (zbF T o).2.2 O S → K (.tup [.agg [.d (.int .i64 (zbF T o).1.1), .d (.int .i64 (zbF T o).1.2)], .d (.slice (zcK (zbF T o).2.1))]) S) : zj Try.prog zcM [.box id 0, opA o] σ K := by
  refine zba zeI.is rfl fun hl _ => zeI.goes ?_
  have done : ∀ z, zbF T o = z → ∀ S, After σ id z.2.2 O S → K (.tup [.agg [.d (.int .i64 z.1.1), .d (.int .i64 z.1.2)], .d (.slice (zcK z.2.1))]) S := fun z h => h ▸ hK
  clear hK
  simp only [zeL, iN, bT, bF, eN, opA]
  refine gq1 ?_
  refine c_Check (o := o) h1 h2 (by omega) ?_
  cases c0 : (zai zcs o == 0)
  · have e0 : zai zcs o ≠ 0 := by simpa using c0
    have c0' : (zai zcs o != 0) = true := by simpa using c0
    refine gq2 (zg c0 c0') ?_
    exact zbE (done _ (show zbF T o = ((zai zcs o, 0), [], T) by rw [zbF, if_pos e0]) _ (.same hO _))
  have e0 : zai zcs o = 0 := by simpa using c0
  have c0' : (zai zcs o != 0) = false := by simpa using c0
  have d0 : ∀ z, _ = z → zbF T o = z := fun z h => (doesF_eq o e0).trans h
  cases k1 : (o.kind == 1)
  rotate_left
  · refine gq2 (zg c0 (zg c0' k1)) ?_
    refine c_tpCreate (hO.app _) hI fun S hS => ?_
    obtain ⟨z, hz⟩ : ∃ z, zcl T o.topic = z := ⟨_, rfl⟩
    have hok := createF_ok (T := T) o.topic
    rw [hz] at hS hok ⊢
    have g1 := hS.at_ hO (j := σ.length + 1) (by omega) (by simp)
    rw [zI] at g1
    have g2 : ∀ Y, (S.set (σ.length + 1) Y)[σ.length + 1]? = some Y := fun Y => List.getElem?_set_self (zl g1)
    have hF := d0 ((z.1.1, z.1.2), [], z.2) (by rw [if_neg (show ¬ o.kind = 0 by have := k1; simp at this; omega), if_pos (show o.kind = 1 by have := k1; simpa using this), ← hz])
    cases c1 : (z.1.1 != 0)
    · have e1 : z.1.1 = 0 := by simpa using c1
      refine gq2 (zg c1 (zg g1 g2)) ?_
      rw [e1, hok] at hF
      refine zbE ?_
      exact done _ hF _ (hS.setB hO (j := σ.length + 1) (by omega) (by simp) _)
    · have e1 : z.1.1 ≠ 0 := by simpa using c1
      refine gq2 (zg c1 (zg g1 g2)) ?_
      rw [hok] at hF
      refine zbE ?_
      exact done _ hF _ (hS.setB hO (j := σ.length + 1) (by omega) (by simp) _)
  cases k2 : (o.kind == 2)
  rotate_left
  · refine gq2 (zg c0 (zg c0' (zg k1 k2))) ?_
    refine c_tpPublish (o := o) (hO.app _) hI ho hr fun S hS => ?_
    obtain ⟨z, hz⟩ : ∃ z, znD T o = z := ⟨_, rfl⟩
    have hok := pubF_ok (T := T) o
    rw [hz] at hS hok ⊢
    have g1 := hS.at_ hO (j := σ.length + 1) (by omega) (by simp)
    rw [zI] at g1
    have g2 : ∀ Y, (S.set (σ.length + 1) Y)[σ.length + 1]? = some Y := fun Y => List.getElem?_set_self (zl g1)
    have hF := d0 ((z.1.1, z.1.2), z.2.1, z.2.2) (by rw [if_neg (show ¬ o.kind = 0 by have := k2; simp at this; omega), if_neg (show ¬ o.kind = 1 by have := k2; simp at this; omega), if_pos (show o.kind = 2 by have := k2; simpa using this), ← hz])
    cases c1 : (z.1.1 != 0)
    · have e1 : z.1.1 = 0 := by simpa using c1
      refine gq2 (zg c1 (zg g1 g2)) ?_
      rw [e1] at hF
      refine zbE ?_
      exact done _ hF _ (hS.setB hO (j := σ.length + 1) (by omega) (by simp) _)
    · have e1 : z.1.1 ≠ 0 := by simpa using c1
      refine gq2 (zg c1 (zg g1 g2)) ?_
      rw [(hok e1).1, (hok e1).2] at hF
      refine zbE ?_
      exact done _ hF _ (hS.setB hO (j := σ.length + 1) (by omega) (by simp) _)
  cases k3 : (o.kind == 3)
  rotate_left
  · refine gq2 (zg c0 (zg c0' (zg k1 (zg k2 k3)))) ?_
    refine c_tpCommit (o := o) (hO.app _) hI fun S hS => ?_
    obtain ⟨z, hz⟩ : ∃ z, zmC T o = z := ⟨_, rfl⟩
    have hok := comF_ok (T := T) o
    rw [hz] at hS hok ⊢
    have g1 := hS.at_ hO (j := σ.length + 1) (by omega) (by simp)
    rw [zI] at g1
    have g2 : ∀ Y, (S.set (σ.length + 1) Y)[σ.length + 1]? = some Y := fun Y => List.getElem?_set_self (zl g1)
    have hF := d0 ((z.1.1, z.1.2), [], z.2) (by rw [if_neg (show ¬ o.kind = 0 by have := k3; simp at this; omega), if_neg (show ¬ o.kind = 1 by have := k3; simp at this; omega), if_neg (show ¬ o.kind = 2 by have := k3; simp at this; omega), if_pos (show o.kind = 3 by have := k3; simpa using this), ← hz])
    cases c1 : (z.1.1 != 0)
    · have e1 : z.1.1 = 0 := by simpa using c1
      refine gq2 (zg c1 (zg g1 g2)) ?_
      rw [e1] at hF
      refine zbE ?_
      exact done _ hF _ (hS.setB hO (j := σ.length + 1) (by omega) (by simp) _)
    · have e1 : z.1.1 ≠ 0 := by simpa using c1
      refine gq2 (zg c1 (zg g1 g2)) ?_
      rw [hok e1] at hF
      refine zbE ?_
      exact done _ hF _ (hS.setB hO (j := σ.length + 1) (by omega) (by simp) _)
  cases k4 : (o.kind == 4)
  rotate_left
  · refine gq2 (zg c0 (zg c0' (zg k1 (zg k2 (zg k3 k4))))) ?_
    refine c_tpTrim (o := o) (hO.app _) hI fun S hS => ?_
    obtain ⟨z, hz⟩ : ∃ z, trmF T o = z := ⟨_, rfl⟩
    have hok := trmF_ok (T := T) o
    rw [hz] at hS hok ⊢
    have g1 := hS.at_ hO (j := σ.length + 1) (by omega) (by simp)
    rw [zI] at g1
    have g2 : ∀ Y, (S.set (σ.length + 1) Y)[σ.length + 1]? = some Y := fun Y => List.getElem?_set_self (zl g1)
    have hF := d0 ((z.1.1, z.1.2), [], z.2) (by rw [if_neg (show ¬ o.kind = 0 by have := k4; simp at this; omega), if_neg (show ¬ o.kind = 1 by have := k4; simp at this; omega), if_neg (show ¬ o.kind = 2 by have := k4; simp at this; omega), if_neg (show ¬ o.kind = 3 by have := k4; simp at this; omega), ← hz])
    cases c1 : (z.1.1 != 0)
    · have e1 : z.1.1 = 0 := by simpa using c1
      refine gq2 (zg c1 (zg g1 g2)) ?_
      rw [e1] at hF
      refine zbE ?_
      exact done _ hF _ (hS.setB hO (j := σ.length + 1) (by omega) (by simp) _)
    · have e1 : z.1.1 ≠ 0 := by simpa using c1
      refine gq2 (zg c1 (zg g1 g2)) ?_
      rw [hok e1] at hF
      refine zbE ?_
      exact done _ hF _ (hS.setB hO (j := σ.length + 1) (by omega) (by simp) _)
  have hk : o.kind = 0 := by
    have h5 : zhF o = true := by
      unfold zai at e0
      split at e0
      · cases e0
      · rename_i h; simp at h; exact h.1
    have n1 : o.kind ≠ 1 := by simpa using k1
    have n2 : o.kind ≠ 2 := by simpa using k2
    have n3 : o.kind ≠ 3 := by simpa using k3
    have n4 : o.kind ≠ 4 := by simpa using k4
    simp [zhF] at h5
    omega
  refine gq2 (zg c0 (zg c0' (zg k1 (zg k2 (zg k3 k4))))) ?_
  refine zbE ?_
  exact (done _ (show zbF T o = ((0, 0), [], T) by rw [doesF_eq o e0, if_pos hk]) _ (.same hO _))
end

end Go.Proofs.Ythpnelbciibjeaa
