/- Contracts: a request comes to the document's topics. -/
import Derived.Test.YtaocmalhjfakdaaGreatTp3
set_option linter.all false
set_option maxRecDepth 100000
set_option linter.unusedSimpArgs false
set_option linter.unusedVariables false
namespace Go.Proofs.YtaocmalhjfakdaaGreat
open Go.AW

theorem zeo : ∀ l : List (Int × Int × Int), (zbB l).length = l.length * 3
  | [] => rfl
  | a :: l => by simp [zbB, zeo l]; omega
theorem ziz : ∀ {l : List (Int × Int × Int)} {k : Nat} {a : Int × Int × Int}, l[k]? = some a → ((zbB l).drop (k * 3)).take 3 = [.d (.int .i64 a.1), .d (.int .i64 a.2.1), .d (.int .i64 a.2.2)]
  | [], k, a, h => by simp at h
  | b :: l, 0, a, h => by simp at h; subst h; simp [zbB]
  | b :: l, k + 1, a, h => by
    have := ziz (l := l) (k := k) (a := a) (by simpa using h)
    rw [show (k + 1) * 3 = k * 3 + 1 + 1 + 1 by omega]
    simpa [zbB] using this
theorem ziy : ∀ {l : List (Int × Int × Int)} {k : Nat} (a : Int × Int × Int), k < l.length → (zbB l).take (k * 3) ++ (.d (.int .i64 a.1) :: .d (.int .i64 a.2.1) :: .d (.int .i64 a.2.2) :: (zbB l).drop (k * 3 + 3)) = zbB (l.set k a)
  | [], k, a, h => by simp at h
  | b :: l, 0, a, h => by simp [zbB]
  | b :: l, k + 1, a, h => by
    have := ziy (l := l) (k := k) a (by simpa using h)
    rw [show (k + 1) * 3 = k * 3 + 1 + 1 + 1 by omega, show k * 3 + 1 + 1 + 1 + 3 = (k * 3 + 3) + 1 + 1 + 1 by omega]
    simpa [zbB] using this
abbrev reqAg (c tm : Int) (o : TOp) : AV := .agg [.d (.int .i64 c), .d (.int .i64 tm), .d (.int .i64 o.kind), .d (.str o.topic), .d (.str o.group), .d (.int .i64 o.offset), .d (.slice (zK o.recs))]
theorem c_r7Apply {σ : List zc} {id t g : Nat} {T : zak} {c tm : Int} {o : TOp} (hT : zbT σ id t g T) (hn : T.l.length ≤ 8) (hX : ∀ x ∈ T.l, TopI x) (h1 : o.topic.length ≤ 1073741824) (h2 : o.group.length ≤ 1073741824) (ho : o.recs.length ≤ 20971520) (hr : ∀ r ∈ o.recs, r.length ≤ 1073741824) {K : KT}
    (hK : ∀ S t' g', zbT S id t' g' (zaL T c tm o).2.2.2 → ziP σ S id → K (.tup [.agg [.d (.int .i64 (zaL T c tm o).1.1), .d (.int .i64 (zaL T c tm o).1.2)], .d (.slice (zch (zaL T c tm o).2.1)), .d (.bool (zaL T c tm o).2.2.1)]) S) : zn Tryz.prog zej [.box id 0, reqAg c tm o] σ K := by
  refine zaj zgE.is rfl fun hl _ => zgE.goes ?_
  have hid := zg hT.box
  have done : ∀ z, zaL T c tm o = z → ∀ S t' g', zbT S id t' g' z.2.2.2 → ziP σ S id → K (.tup [.agg [.d (.int .i64 z.1.1), .d (.int .i64 z.1.2)], .d (.slice (zch z.2.1)), .d (.bool z.2.2.1)]) S := fun z h => h ▸ hK
  clear hK
  have hb := hT.box
  have xb : ∀ τ, (σ ++ τ)[id]? = _ := fun τ => zf hb
  have same : ∀ r τ, zaL T c tm o = (r, [], false, T) → zli K (some [.agg [.d (.int .i64 r.1), .d (.int .i64 r.2)], .exact [], .d (.bool false)]) (σ ++ τ) := fun r τ h => zaO (done _ h _ t g (hT.app _) (.app _ _ _))
  have hlast := hT.last
  simp only [zgI, iN, bT, bF, eN, reqAg]
  cases c0 : decide (c < 0)
  rotate_left
  · refine zt c0 ?_
    refine zcS ?_
    refine zby ?_
    exact same (1, 0) _ (by rw [zaL, if_pos (by simp at c0; omega)])
  cases c1 : decide (c ≥ 8)
  rotate_left
  · refine zt (zb c0 c1) ?_
    refine zcS ?_
    refine zby ?_
    exact same (1, 0) _ (by rw [zaL, if_pos (by simp at c1; omega)])
  cases c2 : decide (tm < 1)
  rotate_left
  · refine zt (zb c0 (zb c1 c2)) ?_
    refine zcS ?_
    refine zby ?_
    exact same (1, 0) _ (by rw [zaL, if_pos (by simp at c2; omega)])
  cases c3 : decide (tm > 9007199254740992)
  rotate_left
  · refine zt (zb c0 (zb c1 (zb c2 c3))) ?_
    refine zcS ?_
    refine zby ?_
    exact same (1, 0) _ (by rw [zaL, if_pos (by simp at c3; omega)])
  have e0 := c0; have e1 := c1; have e2 := c2; have e3 := c3
  simp only [decide_eq_false_iff_not, Int.not_lt, ge_iff_le, gt_iff_lt, Int.not_le] at e0 e1 e2 e3
  obtain ⟨a, ha⟩ : ∃ a, T.last[c.toNat]? = some a := ⟨_, List.getElem?_eq_getElem (by omega)⟩
  have hga : T.last.getD c.toNat (0, 0, 0) = a := by rw [List.getD_eq_getElem?_getD, ha]; rfl
  have hA : zaL T c tm o = if tm = a.1 then (a.2, [], false, T) else if tm < a.1 then ((7, 0), [], false, T) else ((zaU T o).1, (zaU T o).2.1, true, { (zaU T o).2.2 with last := (zaU T o).2.2.last.set c.toNat (tm, (zaU T o).1.1, (zaU T o).1.2) }) := by
    rw [zaL, if_neg (by omega), hga]
  have hl3 := ziz ha
  have hlc := zeo T.last
  have hl4 : ∀ X : AV, List.take 3 (List.drop (1 + c.toNat * 3) (X :: zbB T.last)) = [.d (.int .i64 a.1), .d (.int .i64 a.2.1), .d (.int .i64 a.2.2)] := fun X => by
    rw [Nat.add_comm, List.drop_succ_cons]; exact hl3
  cases c4 : (tm == a.1)
  rotate_left
  · refine zt (zb c0 (zb c1 (zb c2 (zb c3 (zb xb (zb hl4 c4)))))) ?_
    exact same a.2 _ (by rw [hA, if_pos (by simpa using c4)])
  cases c5 : decide (tm < a.1)
  rotate_left
  · refine zt (zb c0 (zb c1 (zb c2 (zb c3 (zb xb (zb hl4 (zb c4 c5))))))) ?_
    refine zcS ?_
    refine zby ?_
    exact same (7, 0) _ (by rw [hA, if_neg (by simpa using c4), if_pos (by simpa using c5)])
  have hz : zaL T c tm o = ((zaU T o).1, (zaU T o).2.1, true, { (zaU T o).2.2 with last := (zaU T o).2.2.last.set c.toNat (tm, (zaU T o).1.1, (zaU T o).1.2) }) := by
    rw [hA, if_neg (by simpa using c4), if_neg (by simpa using c5)]
  refine zt (zb c0 (zb c1 (zb c2 (zb c3 (zb xb (zb hl4 (zb c4 c5))))))) ?_
  refine c_r7does (o := o) (hT.app _) hn hX h1 h2 ho hr fun S t' g' hT' hS' => ?_
  obtain ⟨D, hD⟩ : ∃ D, zaU T o = D := ⟨_, rfl⟩
  have hDl : D.2.2.last.length = 8 := by rw [← hD, zlG]; exact hlast
  rw [hD] at hT' hz ⊢
  have g0 : S[σ.length]? = _ := hS'.get _ _ (by rw [zj]; rfl) (by omega) (fun _ _ _ e => by cases e)
  have g1 : S[σ.length + 1]? = _ := hS'.get _ _ (by rw [zE]; rfl) (by omega) (fun _ _ _ e => by cases e)
  have g2 : S[σ.length + 2]? = _ := hS'.get _ _ (by rw [zE]; rfl) (by omega) (fun _ _ _ e => by cases e)
  have hb' := hT'.box
  have q0 : ∀ τ, (S ++ τ)[σ.length]? = _ := fun τ => zf g0
  have q1 : ∀ τ, (S ++ τ)[σ.length + 1]? = _ := fun τ => zf g1
  have q2 : ∀ τ, (S ++ τ)[σ.length + 2]? = _ := fun τ => zf g2
  have qb : ∀ τ, (S ++ τ)[id]? = _ := fun τ => zf hb'
  have hid' := zg hb'
  have hsl := zg g1
  have qs : ∀ Y τ, (S ++ τ).set id Y = S.set id Y ++ τ := fun Y τ => List.set_append_left _ _ hid'
  have qs1 : ∀ Y τ Z, (S.set id Y ++ τ).set (σ.length + 1) Z = (S.set id Y).set (σ.length + 1) Z ++ τ := fun Y τ Z => List.set_append_left _ _ (by simpa using hsl)
  have r1 : ∀ Y τ, (S.set id Y ++ τ)[σ.length + 1]? = _ := fun Y τ => zf ((List.getElem?_set_ne (by omega)).trans g1)
  have rS : ∀ Y a τ, (S.set id Y ++ a :: τ)[S.length]? = some a := fun Y a τ => by rw [List.getElem?_append_right (by simp)]; simp
  have r1' : ∀ Y τ Z, ((S.set id Y).set (σ.length + 1) Z ++ τ)[σ.length + 1]? = some Z := fun Y τ Z => zf (List.getElem?_set_self (by simpa using hsl))
  have hl5 := zeo D.2.2.last
  have hcs : ∀ X : AV, List.take (1 + c.toNat * 3) (X :: zbB D.2.2.last) ++ .d (.int .i64 tm) :: .d (.int .i64 D.1.1) :: .d (.int .i64 D.1.2) :: List.drop (1 + (c.toNat * 3 + 3)) (X :: zbB D.2.2.last) = X :: zbB (D.2.2.last.set c.toNat (tm, D.1.1, D.1.2)) := fun X => by
    have := ziy (l := D.2.2.last) (k := c.toNat) (tm, D.1.1, D.1.2) (by omega)
    rw [Nat.add_comm 1 (c.toNat * 3 + 3), Nat.add_comm 1 (c.toNat * 3), List.take_succ_cons, List.drop_succ_cons, List.cons_append, this]
  refine zt (zb q0 (zb q1 (zb q2 (zb qb (zb qs (zb qs1 (zb r1 (zb rS (zb r1' hcs))))))))) ?_
  have hrow := hT'.row
  refine zaO (done _ hz _ t' g' ⟨?_, ?_, by rw [List.length_set]; exact hDl⟩ ⟨?_, fun j x hx hj hr' => ?_⟩)
  · exact zf ((List.getElem?_set_ne (by omega)).trans (List.getElem?_set_self hid'))
  · refine zf ?_
    rw [List.getElem?_set_ne (fun e => by subst e; rw [g1] at hrow; cases hrow), List.getElem?_set_ne (fun e => by subst e; rw [hb'] at hrow; cases hrow)]
    exact hrow
  · simp; omega
  · have hlt := zg hx
    refine zf ?_
    rw [List.getElem?_set_ne (by omega), List.getElem?_set_ne (Ne.symm hj)]
    exact hS'.get j x (zf hx) hj hr'
end Go.Proofs.YtaocmalhjfakdaaGreat
