/- Contracts: a request comes to the program's topics. -/
import Derived.Test.YthpnelbciibjeaaGreatTq7
set_option linter.all false
set_option maxRecDepth 100000
set_option linter.unusedSimpArgs false
set_option linter.unusedVariables false
namespace Go.Proofs.YthpnelbciibjeaaGreat
open Go.AW

section
variable {σ τ S : List zc} {id m : Nat} {X : List zdj} {T T' : zad} {O : Nat → Prop} {K : AV → List zc → Prop}
theorem zeA.box (h : zeA σ id T O) : ∃ m, σ[id]? = some (.box (.map m :: zcZ T.last)) ∧ T.last.length = 8 := by
  obtain ⟨m, X, h1, h2, h3⟩ := h
  exact ⟨m, h1.box, h1.last⟩
theorem zeA.told (h : zeA σ id T O) {m : Nat} {c : List AV} (hm : σ[id]? = some (.box (.map m :: c))) (l : List (Int × Int × Int)) (hl : l.length = 8) : zeA (σ.set id (.box (.map m :: zcZ l))) id { T with last := l } O := by
  obtain ⟨m', X, h1, h2, h3⟩ := h
  have e := h1.box
  rw [hm] at e
  cases e
  exact ⟨m, X, h1.told (List.getElem?_set_self (zn hm)) hl (fun j _ hne => List.getElem?_set_ne (Ne.symm hne)), h2, h3⟩
theorem c_tpApply {c tm : Int} {o : TOp} (hO : zeA σ id T O) (hI : zcD T) (h1 : o.topic.length ≤ 1073741824) (h2 : o.group.length ≤ 1073741824) (ho : o.recs.length ≤ 20971520) (hr : ∀ r ∈ o.recs, r.length ≤ 1073741824)
    (hK : ∀ S, After σ id (zbt T c tm o).2.2.2 O S → K (.tup [.agg [.d (.int .i64 (zbt T c tm o).1.1), .d (.int .i64 (zbt T c tm o).1.2)], .d (.slice (zdm (zbt T c tm o).2.1)), .d (.bool (zbt T c tm o).2.2.1)]) S) : zt Tryz.prog zcY [.box id 0, reqAg c tm o] σ K := by
  refine zbd zeM.is rfl fun hl _ => zeM.goes ?_
  obtain ⟨m, hb, hlast⟩ := hO.box
  have hid := zn hb
  have done : ∀ z, zbt T c tm o = z → ∀ S, After σ id z.2.2.2 O S → K (.tup [.agg [.d (.int .i64 z.1.1), .d (.int .i64 z.1.2)], .d (.slice (zdm z.2.1)), .d (.bool z.2.2.1)]) S := fun z h => h ▸ hK
  clear hK
  have xb : ∀ τ, (σ ++ τ)[id]? = _ := fun τ => zg hb
  have same : ∀ r τ, zbt T c tm o = (r, [], false, T) → EndsA K (some [.agg [.d (.int .i64 r.1), .d (.int .i64 r.2)], .exact [], .d (.bool false)]) (σ ++ τ) := fun r τ h => zbN (done _ h _ (.same hO _))
  simp only [zeT, iN, bT, bF, eN, reqAg]
  refine gq1 ?_
  refine ziP (xb _) ?_
  cases c0 : decide (c < 0)
  rotate_left
  · refine gq2 c0 ?_
    exact same (1, 0) _ (by rw [zbt, if_pos (by simp at c0; omega)])
  cases c1 : decide (c ≥ 8)
  rotate_left
  · refine gq2 (zi c0 c1) ?_
    exact same (1, 0) _ (by rw [zbt, if_pos (by simp at c1; omega)])
  cases c2 : decide (tm < 1)
  rotate_left
  · refine gq2 (zi c0 (zi c1 c2)) ?_
    exact same (1, 0) _ (by rw [zbt, if_pos (by simp at c2; omega)])
  cases c3 : decide (tm > 9007199254740992)
  rotate_left
  · refine gq2 (zi c0 (zi c1 (zi c2 c3))) ?_
    exact same (1, 0) _ (by rw [zbt, if_pos (by simp at c3; omega)])
  have e0 := c0; have e1 := c1; have e2 := c2; have e3 := c3
  simp only [decide_eq_false_iff_not, Int.not_lt, ge_iff_le, gt_iff_lt, Int.not_le] at e0 e1 e2 e3
  obtain ⟨a, ha⟩ : ∃ a, T.last[c.toNat]? = some a := ⟨_, List.getElem?_eq_getElem (by omega)⟩
  have hga : T.last.getD c.toNat (0, 0, 0) = a := by rw [List.getD_eq_getElem?_getD, ha]; rfl
  have hA : zbt T c tm o = if tm = a.1 then (a.2, [], false, T) else if tm < a.1 then ((7, 0), [], false, T) else ((zbI T o).1, (zbI T o).2.1, true, { (zbI T o).2.2 with last := (zbI T o).2.2.last.set c.toNat (tm, (zbI T o).1.1, (zbI T o).1.2) }) := by
    rw [zbt, if_neg (by omega), hga]
  have hl3 := zmU ha
  have hlc := zhV T.last
  have hl4 : ∀ X : AV, List.take 3 (List.drop (1 + c.toNat * 3) (X :: zcZ T.last)) = [.d (.int .i64 a.1), .d (.int .i64 a.2.1), .d (.int .i64 a.2.2)] := fun X => by
    rw [Nat.add_comm, List.drop_succ_cons]; exact hl3
  have hl1 : ∀ X : AV, (X :: zcZ T.last)[1 + c.toNat * 3]? = some (.d (.int .i64 a.1)) := fun X => by
    have := congrArg (·[0]?) (hl4 X)
    simpa [List.getElem?_take, List.getElem?_drop] using this
  have hl2 : ∀ X : AV, List.take 2 (List.drop (1 + (c.toNat * 3 + 1)) (X :: zcZ T.last)) = [.d (.int .i64 a.2.1), .d (.int .i64 a.2.2)] := fun X => by
    rw [← Nat.add_assoc]
    have := congrArg (List.drop 1) (hl4 X)
    rw [List.drop_take, List.drop_drop] at this
    simpa using this
  cases c4 : (tm == a.1)
  rotate_left
  · refine gq2 (zi c0 (zi c1 (zi c2 (zi c3 (zi xb (zi hl1 (zi hl2 c4))))))) ?_
    exact same a.2 _ (by rw [hA, if_pos (by simpa using c4)])
  cases c5 : decide (tm < a.1)
  rotate_left
  · refine gq2 (zi c0 (zi c1 (zi c2 (zi c3 (zi xb (zi hl1 (zi hl2 (zi c4 c5)))))))) ?_
    exact same (7, 0) _ (by rw [hA, if_neg (by simpa using c4), if_pos (by simpa using c5)])
  have hz : zbt T c tm o = ((zbI T o).1, (zbI T o).2.1, true, { (zbI T o).2.2 with last := (zbI T o).2.2.last.set c.toNat (tm, (zbI T o).1.1, (zbI T o).1.2) }) := by
    rw [hA, if_neg (by simpa using c4), if_neg (by simpa using c5)]
  refine gq2 (zi c0 (zi c1 (zi c2 (zi c3 (zi xb (zi hl1 (zi c4 c5))))))) ?_
  refine c_tpDoes (o := o) (hO.app _) hI h1 h2 ho hr fun S hS => ?_
  obtain ⟨D, hD⟩ : ∃ D, zbI T o = D := ⟨_, rfl⟩
  have hDl : D.2.2.last.length = 8 := by rw [← hD, zll]; exact hlast
  rw [hD] at hS hz ⊢
  have g0 := hS.at_ hO (j := σ.length) (by omega) (by simp)
  have g1 := hS.at_ hO (j := σ.length + 1) (by omega) (by simp)
  rw [zp] at g0
  rw [zP] at g1
  obtain ⟨O', hT', hSt, hO'⟩ := hS
  obtain ⟨m', hb', hl8⟩ := hT'.box
  have hid' := zn hb'
  have hsl := zn g1
  have q0 : ∀ τ, (S ++ τ)[σ.length]? = _ := fun τ => zg g0
  have q1 : ∀ τ, (S ++ τ)[σ.length + 1]? = _ := fun τ => zg g1
  have qb : ∀ τ, (S ++ τ)[id]? = _ := fun τ => zg hb'
  have qs : ∀ Y τ, (S ++ τ).set id Y = S.set id Y ++ τ := fun Y τ => List.set_append_left _ _ hid'
  have qs1 : ∀ Y τ Z, (S.set id Y ++ τ).set (σ.length + 1) Z = (S.set id Y).set (σ.length + 1) Z ++ τ := fun Y τ Z => List.set_append_left _ _ (by simpa using hsl)
  have r1 : ∀ Y τ, (S.set id Y ++ τ)[σ.length + 1]? = _ := fun Y τ => zg ((List.getElem?_set_ne (by omega)).trans g1)
  have rS : ∀ Y a τ, (S.set id Y ++ a :: τ)[S.length]? = some a := fun Y a τ => by rw [List.getElem?_append_right (by simp)]; simp
  have r1' : ∀ Y τ Z, ((S.set id Y).set (σ.length + 1) Z ++ τ)[σ.length + 1]? = some Z := fun Y τ Z => zg (List.getElem?_set_self (by simpa using hsl))
  have hl5 := zhV D.2.2.last
  have hcs : ∀ X : AV, List.take (1 + c.toNat * 3) (X :: zcZ D.2.2.last) ++ .d (.int .i64 tm) :: .d (.int .i64 D.1.1) :: .d (.int .i64 D.1.2) :: List.drop (1 + (c.toNat * 3 + 3)) (X :: zcZ D.2.2.last) = X :: zcZ (D.2.2.last.set c.toNat (tm, D.1.1, D.1.2)) := fun X => by
    have := lastC_set (l := D.2.2.last) (k := c.toNat) (tm, D.1.1, D.1.2) (by omega)
    rw [Nat.add_comm 1 (c.toNat * 3 + 3), Nat.add_comm 1 (c.toNat * 3), List.take_succ_cons, List.drop_succ_cons, List.cons_append, this]
  refine gq2 (zi q0 (zi q1 (zi qb (zi qs (zi qs1 (zi r1 (zi rS (zi r1' hcs)))))))) ?_
  have nO : ¬ O' (σ.length + 1) := fun h => (hO' _ h).elim (fun h => by have := hO.own_lt h; omega) (fun h => by simp at h)
  refine zbN (done _ hz _ ⟨O', ((hT'.told hb' (D.2.2.last.set c.toNat (tm, D.1.1, D.1.2)) (by simpa using hl8)).set nO _).app _, ⟨?_, fun j hj hlt => ?_⟩, fun j hj => (hO' j hj).imp_right fun h => by simp at h; omega⟩)
  · have := hSt.len
    simp at this ⊢; omega
  · rw [List.getElem?_append_left (by have := hSt.len; simp at this ⊢; omega), List.getElem?_set_ne (by omega), List.getElem?_set_ne (fun e => by subst e; exact hj hO.self)]
    exact (hSt.get j hj (by simp; omega)).trans (List.getElem?_append_left hlt)
end

end Go.Proofs.YthpnelbciibjeaaGreat
