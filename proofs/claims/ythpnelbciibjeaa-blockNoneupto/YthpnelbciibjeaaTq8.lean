/- Contracts: a request comes to the program's topics. -/
import Derived.Test.YthpnelbciibjeaaTq7
set_option linter.all false
set_option maxRecDepth 100000
set_option linter.unusedSimpArgs false
set_option linter.unusedVariables false
namespace Go.Proofs.Ythpnelbciibjeaa
open Go.AW

section
variable {σ τ S : List zc} {id m : Nat} {X : List zcH} {T T' : zaq} {O : Nat → Prop} {K : AV → List zc → Prop}
theorem zeB.box (h : zeB σ id T O) : ∃ m, σ[id]? = some (.box (.map m :: zcE T.last)) ∧ T.last.length = 8 := by
  obtain ⟨m, X, h1, h2, h3⟩ := h
  exact ⟨m, h1.box, h1.last⟩
theorem zeB.told (h : zeB σ id T O) {m : Nat} {c : List AV} (hm : σ[id]? = some (.box (.map m :: c))) (l : List (Int × Int × Int)) (hl : l.length = 8) : zeB (σ.set id (.box (.map m :: zcE l))) id { T with last := l } O := by
  obtain ⟨m', X, h1, h2, h3⟩ := h
  have e := h1.box
  rw [hm] at e
  cases e
  exact ⟨m, X, h1.told (List.getElem?_set_self (zl hm)) hl (fun j _ hne => List.getElem?_set_ne (Ne.symm hne)), h2, h3⟩
theorem c_tpApply {c tm : Int} {o : TOp} (hO : zeB σ id T O) (hI : zdQ T) (h1 : o.topic.length ≤ 1073741824) (h2 : o.group.length ≤ 1073741824) (ho : o.recs.length ≤ 20971520) (hr : ∀ r ∈ o.recs, r.length ≤ 1073741824)
    (hK : ∀ S, After σ id (zbO T c tm o).2.2.2 O S → K (.tup [.agg [.d (.int .i64 (zbO T c tm o).1.1), .d (.int .i64 (zbO T c tm o).1.2)], .d (.slice (zcK (zbO T c tm o).2.1)), .d (.bool (zbO T c tm o).2.2.1)]) S) : zj Try.prog zcv [.box id 0, reqAg c tm o] σ K := by
  refine zba zeq.is rfl fun hl _ => zeq.goes ?_
  obtain ⟨m, hb, hlast⟩ := hO.box
  have hid := zl hb
  have done : ∀ z, zbO T c tm o = z → ∀ S, After σ id z.2.2.2 O S → K (.tup [.agg [.d (.int .i64 z.1.1), .d (.int .i64 z.1.2)], .d (.slice (zcK z.2.1)), .d (.bool z.2.2.1)]) S := fun z h => h ▸ hK
  clear hK
  have xb : ∀ τ, (σ ++ τ)[id]? = _ := fun τ => zf hb
  have same : ∀ r τ, zbO T c tm o = (r, [], false, T) → EndsA K (some [.agg [.d (.int .i64 r.1), .d (.int .i64 r.2)], .exact [], .d (.bool false)]) (σ ++ τ) := fun r τ h => zbE (done _ h _ (.same hO _))
  simp only [zex, iN, bT, bF, eN, reqAg]
  refine gq1 ?_
  refine zhO (xb _) ?_
  cases c0 : decide (c < 0)
  rotate_left
  · refine gq2 c0 ?_
    exact same (1, 0) _ (by rw [zbO, if_pos (by simp at c0; omega)])
  cases c1 : decide (c ≥ 8)
  rotate_left
  · refine gq2 (zg c0 c1) ?_
    exact same (1, 0) _ (by rw [zbO, if_pos (by simp at c1; omega)])
  cases c2 : decide (tm < 1)
  rotate_left
  · refine gq2 (zg c0 (zg c1 c2)) ?_
    exact same (1, 0) _ (by rw [zbO, if_pos (by simp at c2; omega)])
  cases c3 : decide (tm > 9007199254740992)
  rotate_left
  · refine gq2 (zg c0 (zg c1 (zg c2 c3))) ?_
    exact same (1, 0) _ (by rw [zbO, if_pos (by simp at c3; omega)])
  have e0 := c0; have e1 := c1; have e2 := c2; have e3 := c3
  simp only [decide_eq_false_iff_not, Int.not_lt, ge_iff_le, gt_iff_lt, Int.not_le] at e0 e1 e2 e3
  obtain ⟨a, ha⟩ : ∃ a, T.last[c.toNat]? = some a := ⟨_, List.getElem?_eq_getElem (by omega)⟩
  have hga : T.last.getD c.toNat (0, 0, 0) = a := by rw [List.getD_eq_getElem?_getD, ha]; rfl
  have hA : zbO T c tm o = if tm = a.1 then (a.2, [], false, T) else if tm < a.1 then ((7, 0), [], false, T) else ((zbF T o).1, (zbF T o).2.1, true, { (zbF T o).2.2 with last := (zbF T o).2.2.last.set c.toNat (tm, (zbF T o).1.1, (zbF T o).1.2) }) := by
    rw [zbO, if_neg (by omega), hga]
  have hl3 := zlG ha
  have hlc := zhg T.last
  have hl4 : ∀ X : AV, List.take 3 (List.drop (1 + c.toNat * 3) (X :: zcE T.last)) = [.d (.int .i64 a.1), .d (.int .i64 a.2.1), .d (.int .i64 a.2.2)] := fun X => by
    rw [Nat.add_comm, List.drop_succ_cons]; exact hl3
  have hl1 : ∀ X : AV, (X :: zcE T.last)[1 + c.toNat * 3]? = some (.d (.int .i64 a.1)) := fun X => by
    have := congrArg (·[0]?) (hl4 X)
    simpa [List.getElem?_take, List.getElem?_drop] using this
  have hl2 : ∀ X : AV, List.take 2 (List.drop (1 + (c.toNat * 3 + 1)) (X :: zcE T.last)) = [.d (.int .i64 a.2.1), .d (.int .i64 a.2.2)] := fun X => by
    rw [← Nat.add_assoc]
    have := congrArg (List.drop 1) (hl4 X)
    rw [List.drop_take, List.drop_drop] at this
    simpa using this
  cases c4 : (tm == a.1)
  rotate_left
  · refine gq2 (zg c0 (zg c1 (zg c2 (zg c3 (zg xb (zg hl1 (zg hl2 c4))))))) ?_
    exact same a.2 _ (by rw [hA, if_pos (by simpa using c4)])
  cases c5 : decide (tm < a.1)
  rotate_left
  · refine gq2 (zg c0 (zg c1 (zg c2 (zg c3 (zg xb (zg hl1 (zg hl2 (zg c4 c5)))))))) ?_
    exact same (7, 0) _ (by rw [hA, if_neg (by simpa using c4), if_pos (by simpa using c5)])
  have hz : zbO T c tm o = ((zbF T o).1, (zbF T o).2.1, true, { (zbF T o).2.2 with last := (zbF T o).2.2.last.set c.toNat (tm, (zbF T o).1.1, (zbF T o).1.2) }) := by
    rw [hA, if_neg (by simpa using c4), if_neg (by simpa using c5)]
  refine gq2 (zg c0 (zg c1 (zg c2 (zg c3 (zg xb (zg hl1 (zg c4 c5))))))) ?_
  refine c_tpDoes (o := o) (hO.app _) hI h1 h2 ho hr fun S hS => ?_
  obtain ⟨D, hD⟩ : ∃ D, zbF T o = D := ⟨_, rfl⟩
  have hDl : D.2.2.last.length = 8 := by rw [← hD, znf]; exact hlast
  rw [hD] at hS hz ⊢
  have g0 := hS.at_ hO (j := σ.length) (by omega) (by simp)
  have g1 := hS.at_ hO (j := σ.length + 1) (by omega) (by simp)
  rw [zr] at g0
  rw [zI] at g1
  obtain ⟨O', hT', hSt, hO'⟩ := hS
  obtain ⟨m', hb', hl8⟩ := hT'.box
  have hid' := zl hb'
  have hsl := zl g1
  have q0 : ∀ τ, (S ++ τ)[σ.length]? = _ := fun τ => zf g0
  have q1 : ∀ τ, (S ++ τ)[σ.length + 1]? = _ := fun τ => zf g1
  have qb : ∀ τ, (S ++ τ)[id]? = _ := fun τ => zf hb'
  have qs : ∀ Y τ, (S ++ τ).set id Y = S.set id Y ++ τ := fun Y τ => List.set_append_left _ _ hid'
  have qs1 : ∀ Y τ Z, (S.set id Y ++ τ).set (σ.length + 1) Z = (S.set id Y).set (σ.length + 1) Z ++ τ := fun Y τ Z => List.set_append_left _ _ (by simpa using hsl)
  have r1 : ∀ Y τ, (S.set id Y ++ τ)[σ.length + 1]? = _ := fun Y τ => zf ((List.getElem?_set_ne (by omega)).trans g1)
  have rS : ∀ Y a τ, (S.set id Y ++ a :: τ)[S.length]? = some a := fun Y a τ => by rw [List.getElem?_append_right (by simp)]; simp
  have r1' : ∀ Y τ Z, ((S.set id Y).set (σ.length + 1) Z ++ τ)[σ.length + 1]? = some Z := fun Y τ Z => zf (List.getElem?_set_self (by simpa using hsl))
  have hl5 := zhg D.2.2.last
  have hcs : ∀ X : AV, List.take (1 + c.toNat * 3) (X :: zcE D.2.2.last) ++ .d (.int .i64 tm) :: .d (.int .i64 D.1.1) :: .d (.int .i64 D.1.2) :: List.drop (1 + (c.toNat * 3 + 3)) (X :: zcE D.2.2.last) = X :: zcE (D.2.2.last.set c.toNat (tm, D.1.1, D.1.2)) := fun X => by
    have := lastC_set (l := D.2.2.last) (k := c.toNat) (tm, D.1.1, D.1.2) (by omega)
    rw [Nat.add_comm 1 (c.toNat * 3 + 3), Nat.add_comm 1 (c.toNat * 3), List.take_succ_cons, List.drop_succ_cons, List.cons_append, this]
  refine gq2 (zg q0 (zg q1 (zg qb (zg qs (zg qs1 (zg r1 (zg rS (zg r1' hcs)))))))) ?_
  have nO : ¬ O' (σ.length + 1) := fun h => (hO' _ h).elim (fun h => by have := hO.own_lt h; omega) (fun h => by simp at h)
  refine zbE (done _ hz _ ⟨O', ((hT'.told hb' (D.2.2.last.set c.toNat (tm, D.1.1, D.1.2)) (by simpa using hl8)).set nO _).app _, ⟨?_, fun j hj hlt => ?_⟩, fun j hj => (hO' j hj).imp_right fun h => by simp at h; omega⟩)
  · have := hSt.len
    simp at this ⊢; omega
  · rw [List.getElem?_append_left (by have := hSt.len; simp at this ⊢; omega), List.getElem?_set_ne (by omega), List.getElem?_set_ne (fun e => by subst e; exact hj hO.self)]
    exact (hSt.get j hj (by simp; omega)).trans (List.getElem?_append_left hlt)
end

end Go.Proofs.Ythpnelbciibjeaa
