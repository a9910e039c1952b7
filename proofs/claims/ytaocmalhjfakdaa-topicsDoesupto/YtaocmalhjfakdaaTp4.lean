/- Contracts: a request comes to the document's topics. -/
import Derived.Test.YtaocmalhjfakdaaTp3
set_option linter.all false
set_option maxRecDepth 100000
set_option linter.unusedSimpArgs false
set_option linter.unusedVariables false
namespace Go.Proofs.Ytaocmalhjfakdaa
open Go.AW

theorem zcL : ∀ l : List (Int × Int × Int), (zbb l).length = l.length * 3
  | [] => rfl
  | a :: l => by simp [zbb, zcL l]; omega
theorem zeW : ∀ {l : List (Int × Int × Int)} {k : Nat} {a : Int × Int × Int}, l[k]? = some a → ((zbb l).drop (k * 3)).take 3 = [.d (.int .i64 a.1), .d (.int .i64 a.2.1), .d (.int .i64 a.2.2)]
  | [], k, a, h => by simp at h
  | b :: l, 0, a, h => by simp at h; subst h; simp [zbb]
  | b :: l, k + 1, a, h => by
    have := zeW (l := l) (k := k) (a := a) (by simpa using h)
    rw [show (k + 1) * 3 = k * 3 + 1 + 1 + 1 by omega]
    simpa [zbb] using this
theorem zkB : ∀ {l : List (Int × Int × Int)} {k : Nat} (a : Int × Int × Int), k < l.length → (zbb l).take (k * 3) ++ (.d (.int .i64 a.1) :: .d (.int .i64 a.2.1) :: .d (.int .i64 a.2.2) :: (zbb l).drop (k * 3 + 3)) = zbb (l.set k a)
  | [], k, a, h => by simp at h
  | b :: l, 0, a, h => by simp [zbb]
  | b :: l, k + 1, a, h => by
    have := zkB (l := l) (k := k) a (by simpa using h)
    rw [show (k + 1) * 3 = k * 3 + 1 + 1 + 1 by omega, show k * 3 + 1 + 1 + 1 + 3 = (k * 3 + 3) + 1 + 1 + 1 by omega]
    simpa [zbb] using this
abbrev reqAg (c tm : Int) (o : TOp) : AV := .agg [.d (.int .i64 c), .d (.int .i64 tm), .d (.int .i64 o.kind), .d (.str o.topic), .d (.str o.group), .d (.int .i64 o.offset), .d (.slice (zQ o.recs))]
theorem c_r7Apply {σ : List zb} {id t g : Nat} {T : zP} {c tm : Int} {o : TOp} (hT : zbo σ id t g T) (hn : T.l.length ≤ 8) (hX : ∀ x ∈ T.l, TopI x) (h1 : o.topic.length ≤ 1073741824) (h2 : o.group.length ≤ 1073741824) (ho : o.recs.length ≤ 20971520) (hr : ∀ r ∈ o.recs, r.length ≤ 1073741824) {K : AV → List zb → Prop}
    (hK : ∀ S t' g', zbo S id t' g' (zaa T c tm o).2.2.2 → zgz σ S id → K (.tup [.agg [.d (.int .i64 (zaa T c tm o).1.1), .d (.int .i64 (zaa T c tm o).1.2)], .d (.slice (zbj (zaa T c tm o).2.1)), .d (.bool (zaa T c tm o).2.2.1)]) S) : zu Try.prog zdr [.box id 0, reqAg c tm o] σ K := by
  refine zau zfs.is rfl fun hl _ => zfs.goes ?_
  have hid := zh hT.box
  have done : ∀ z, zaa T c tm o = z → ∀ S t' g', zbo S id t' g' z.2.2.2 → zgz σ S id → K (.tup [.agg [.d (.int .i64 z.1.1), .d (.int .i64 z.1.2)], .d (.slice (zbj z.2.1)), .d (.bool z.2.2.1)]) S := fun z h => h ▸ hK
  clear hK
  have hb := hT.box
  have xb : ∀ τ, (σ ++ τ)[id]? = _ := fun τ => ze hb
  have same : ∀ r τ, zaa T c tm o = (r, [], false, T) → zmO K (some [.agg [.d (.int .i64 r.1), .d (.int .i64 r.2)], .exact [], .d (.bool false)]) (σ ++ τ) := fun r τ h => zaR (done _ h _ t g (hT.app _) (.app _ _ _))
  have hlast := hT.last
  simp only [zfx, iN, bT, bF, eN, reqAg]
  cases c0 : decide (c < 0)
  rotate_left
  · refine zV c0 ?_
    refine zbU ?_
    refine zbw ?_
    exact same (1, 0) _ (by rw [zaa, if_pos (by simp at c0; omega)])
  cases c1 : decide (c ≥ 8)
  rotate_left
  · refine zV (zd c0 c1) ?_
    refine zbU ?_
    refine zbw ?_
    exact same (1, 0) _ (by rw [zaa, if_pos (by simp at c1; omega)])
  cases c2 : decide (tm < 1)
  rotate_left
  · refine zV (zd c0 (zd c1 c2)) ?_
    refine zbU ?_
    refine zbw ?_
    exact same (1, 0) _ (by rw [zaa, if_pos (by simp at c2; omega)])
  cases c3 : decide (tm > 9007199254740992)
  rotate_left
  · refine zV (zd c0 (zd c1 (zd c2 c3))) ?_
    refine zbU ?_
    refine zbw ?_
    exact same (1, 0) _ (by rw [zaa, if_pos (by simp at c3; omega)])
  have e0 := c0; have e1 := c1; have e2 := c2; have e3 := c3
  simp only [decide_eq_false_iff_not, Int.not_lt, ge_iff_le, gt_iff_lt, Int.not_le] at e0 e1 e2 e3
  obtain ⟨a, ha⟩ : ∃ a, T.last[c.toNat]? = some a := ⟨_, List.getElem?_eq_getElem (by omega)⟩
  have hga : T.last.getD c.toNat (0, 0, 0) = a := by rw [List.getD_eq_getElem?_getD, ha]; rfl
  have hA : zaa T c tm o = if tm = a.1 then (a.2, [], false, T) else if tm < a.1 then ((7, 0), [], false, T) else ((zaA T o).1, (zaA T o).2.1, true, { (zaA T o).2.2 with last := (zaA T o).2.2.last.set c.toNat (tm, (zaA T o).1.1, (zaA T o).1.2) }) := by
    rw [zaa, if_neg (by omega), hga]
  have hl3 := zeW ha
  have hlc := zcL T.last
  have hl4 : ∀ X : AV, List.take 3 (List.drop (1 + c.toNat * 3) (X :: zbb T.last)) = [.d (.int .i64 a.1), .d (.int .i64 a.2.1), .d (.int .i64 a.2.2)] := fun X => by
    rw [Nat.add_comm, List.drop_succ_cons]; exact hl3
  cases c4 : (tm == a.1)
  rotate_left
  · refine zV (zd c0 (zd c1 (zd c2 (zd c3 (zd xb (zd hl4 c4)))))) ?_
    exact same a.2 _ (by rw [hA, if_pos (by simpa using c4)])
  cases c5 : decide (tm < a.1)
  rotate_left
  · refine zV (zd c0 (zd c1 (zd c2 (zd c3 (zd xb (zd hl4 (zd c4 c5))))))) ?_
    refine zbU ?_
    refine zbw ?_
    exact same (7, 0) _ (by rw [hA, if_neg (by simpa using c4), if_pos (by simpa using c5)])
  have hz : zaa T c tm o = ((zaA T o).1, (zaA T o).2.1, true, { (zaA T o).2.2 with last := (zaA T o).2.2.last.set c.toNat (tm, (zaA T o).1.1, (zaA T o).1.2) }) := by
    rw [hA, if_neg (by simpa using c4), if_neg (by simpa using c5)]
  refine zV (zd c0 (zd c1 (zd c2 (zd c3 (zd xb (zd hl4 (zd c4 c5))))))) ?_
  refine c_r7does (o := o) (hT.app _) hn hX h1 h2 ho hr fun S t' g' hT' hS' => ?_
  obtain ⟨D, hD⟩ : ∃ D, zaA T o = D := ⟨_, rfl⟩
  have hDl : D.2.2.last.length = 8 := by rw [← hD, zhr]; exact hlast
  rw [hD] at hT' hz ⊢
  have g0 : S[σ.length]? = _ := hS'.get _ _ (by rw [zl]; rfl) (by omega) (fun _ _ _ e => by cases e)
  have g1 : S[σ.length + 1]? = _ := hS'.get _ _ (by rw [zE]; rfl) (by omega) (fun _ _ _ e => by cases e)
  have g2 : S[σ.length + 2]? = _ := hS'.get _ _ (by rw [zE]; rfl) (by omega) (fun _ _ _ e => by cases e)
  have hb' := hT'.box
  have q0 : ∀ τ, (S ++ τ)[σ.length]? = _ := fun τ => ze g0
  have q1 : ∀ τ, (S ++ τ)[σ.length + 1]? = _ := fun τ => ze g1
  have q2 : ∀ τ, (S ++ τ)[σ.length + 2]? = _ := fun τ => ze g2
  have qb : ∀ τ, (S ++ τ)[id]? = _ := fun τ => ze hb'
  have hid' := zh hb'
  have hsl := zh g1
  have qs : ∀ Y τ, (S ++ τ).set id Y = S.set id Y ++ τ := fun Y τ => List.set_append_left _ _ hid'
  have qs1 : ∀ Y τ Z, (S.set id Y ++ τ).set (σ.length + 1) Z = (S.set id Y).set (σ.length + 1) Z ++ τ := fun Y τ Z => List.set_append_left _ _ (by simpa using hsl)
  have r1 : ∀ Y τ, (S.set id Y ++ τ)[σ.length + 1]? = _ := fun Y τ => ze ((List.getElem?_set_ne (by omega)).trans g1)
  have rS : ∀ Y a τ, (S.set id Y ++ a :: τ)[S.length]? = some a := fun Y a τ => by rw [List.getElem?_append_right (by simp)]; simp
  have r1' : ∀ Y τ Z, ((S.set id Y).set (σ.length + 1) Z ++ τ)[σ.length + 1]? = some Z := fun Y τ Z => ze (List.getElem?_set_self (by simpa using hsl))
  have hl5 := zcL D.2.2.last
  have hcs : ∀ X : AV, List.take (1 + c.toNat * 3) (X :: zbb D.2.2.last) ++ .d (.int .i64 tm) :: .d (.int .i64 D.1.1) :: .d (.int .i64 D.1.2) :: List.drop (1 + (c.toNat * 3 + 3)) (X :: zbb D.2.2.last) = X :: zbb (D.2.2.last.set c.toNat (tm, D.1.1, D.1.2)) := fun X => by
    have := zkB (l := D.2.2.last) (k := c.toNat) (tm, D.1.1, D.1.2) (by omega)
    rw [Nat.add_comm 1 (c.toNat * 3 + 3), Nat.add_comm 1 (c.toNat * 3), List.take_succ_cons, List.drop_succ_cons, List.cons_append, this]
  refine zV (zd q0 (zd q1 (zd q2 (zd qb (zd qs (zd qs1 (zd r1 (zd rS (zd r1' hcs))))))))) ?_
  have hrow := hT'.row
  refine zaR (done _ hz _ t' g' ⟨?_, ?_, by rw [List.length_set]; exact hDl⟩ ⟨?_, fun j x hx hj hr' => ?_⟩)
  · exact ze ((List.getElem?_set_ne (by omega)).trans (List.getElem?_set_self hid'))
  · refine ze ?_
    rw [List.getElem?_set_ne (fun e => by subst e; rw [g1] at hrow; cases hrow), List.getElem?_set_ne (fun e => by subst e; rw [hb'] at hrow; cases hrow)]
    exact hrow
  · simp; omega
  · have hlt := zh hx
    refine ze ?_
    rw [List.getElem?_set_ne (by omega), List.getElem?_set_ne (Ne.symm hj)]
    exact hS'.get j x (ze hx) hj hr'
end Go.Proofs.Ytaocmalhjfakdaa
