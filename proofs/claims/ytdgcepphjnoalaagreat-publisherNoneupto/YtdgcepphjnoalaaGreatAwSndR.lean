/- What an operation does, against the model: append to a row of the call's own, whose cells are all known. -/
import Derived.Test.YtdgcepphjnoalaaGreatAwSnd3
import Derived.MapKept
import Derived.WideKeyRuns
import Derived.WalkSpells
import Derived.DeepKeys3
import Derived.Laws.IdiomRangeMap
import Derived.Orders
import Derived.Deep.LoopGhost
import Derived.CallsIn
import Derived.OrdersIn
set_option linter.all false
set_option linter.unusedSimpArgs false
set_option linter.unusedVariables false
namespace Go.AW
section
variable {P : Program} {o : Oper} {i : I} {fr : zE} {σ : List zc} {K : AV → List zc → Prop} {L : Nat → Loc} {w : World} {a : Act}

def SrcA (P : Program) (w : World) (L : Nat → Loc) (σ : List zc) (sz : Nat) (v : Value) (m : Nat) (ys : List AV) : Prop :=
  ∃ news, zoS P w sz v m news ∧ RVs w L σ ys news ∧ (∀ u ∈ news, u.oneCell' = true) ∧ ∀ c ∈ ys, sc c = true

theorem srcA_rd {es : List (List D)} {v : Value} {sz : Nat} (hsz : ∀ e ∈ es, e.length = sz) (h : ∃ news, zoS P w sz v es.length news ∧ zgs w (Own L σ) sz es news ∧ (∀ u ∈ news, u.oneCell' = true)) : SrcA P w L σ sz v es.length (es.flatten.map .d) := by
  obtain ⟨news, h1, h2, h3⟩ := h
  have hfl : ∀ (l : List (List D)), (∀ e ∈ l, e.length = sz) → l.flatten.length = l.length * sz := by
    intro l
    induction l with
    | nil => simp
    | cons e l ih => intro h; simp only [List.flatten_cons, List.length_append, List.length_cons, Nat.succ_mul]; rw [ih fun e he => h e (List.mem_cons_of_mem _ he), h e List.mem_cons_self]; omega
  have hget : ∀ (l : List (List D)), (∀ e ∈ l, e.length = sz) → ∀ (k : Nat) d, l.flatten[k]? = some d → ∃ i e j, l[i]? = some e ∧ e[j]? = some d ∧ k = i * sz + j := by
    intro l
    induction l with
    | nil => intro _ k d h; simp at h
    | cons e l ih =>
      intro h k d hk
      have he := h e List.mem_cons_self
      simp only [List.flatten_cons] at hk
      rcases Nat.lt_or_ge k sz with hlt | hge
      · rw [List.getElem?_append_left (by omega)] at hk
        exact ⟨0, e, k, rfl, hk, by simp⟩
      · rw [List.getElem?_append_right (by omega)] at hk
        obtain ⟨i, e', j, c1, c2, c3⟩ := ih (fun e he => h e (List.mem_cons_of_mem _ he)) _ d hk
        exact ⟨i + 1, e', j, c1, c2, by rw [Nat.succ_mul]; omega⟩
  refine ⟨news, h1, ⟨by rw [h1.1, List.length_map, hfl es hsz], fun k c u hc hu => ?_⟩, h3, fun c hc => ?_⟩
  · simp only [List.getElem?_map, Option.map_eq_some_iff] at hc
    obtain ⟨d, hd, rfl⟩ := hc
    obtain ⟨i, e, j, c1, c2, rfl⟩ := hget es hsz k d hd
    obtain ⟨v', c3, c4, _⟩ := h2 i e j d c1 c2
    rw [hu] at c3; cases c3
    exact .d _ _ c4
  · obtain ⟨d, _, rfl⟩ := List.mem_map.1 hc
    rfl

theorem row_cells (S : Sim L σ w) {t g sz : Nat} {cs : List AV} (hx : σ[t]? = some (.row g sz cs)) (lo n : Nat) (hle : (lo + n) * sz ≤ cs.length) :
    ∃ news : List Value, news.length = n * sz ∧ RVs w L σ ((cs.drop (lo * sz)).take (n * sz)) news ∧ (∀ u ∈ news, u.oneCell' = true) ∧ ∀ k u, news[k]? = some u → w.cell? ⟨(L t).a.block, (L t).a.off + lo * sz + k, none⟩ = some u := by
  obtain ⟨_, _, hsc, _, _, hcells⟩ := S.obj t _ hx
  rw [Nat.add_mul] at hle
  have hat : ∀ k, k < n * sz → ∃ u, w.cell? ⟨(L t).a.block, (L t).a.off + lo * sz + k, none⟩ = some u ∧ u.oneCell' = true ∧ ∀ c, cs[lo * sz + k]? = some c → RV w L σ c u := fun k hk => by
    have hc : cs[lo * sz + k]? = some (cs[lo * sz + k]'(by omega)) := List.getElem?_eq_getElem _
    obtain ⟨u, h1, h2⟩ := hcells _ _ hc
    rw [← Nat.add_assoc] at h1
    exact ⟨u, h1, h2.one (hsc _ (List.mem_of_getElem? hc)), fun c hc' => by rw [hc] at hc'; cases hc'; exact h2⟩
  refine ⟨(List.range (n * sz)).map fun k => (w.cell? ⟨(L t).a.block, (L t).a.off + lo * sz + k, none⟩).getD undef, by simp, ⟨by simp; omega, fun k c u hc hu => ?_⟩, fun u hu => ?_, fun k u hu => ?_⟩
  · have hk : k < n * sz := by have := ze hu; simpa using this
    rw [List.getElem?_take, if_pos hk, List.getElem?_drop] at hc
    obtain ⟨u', h1, _, h3⟩ := hat k hk
    simp [hk, h1] at hu
    subst hu
    exact h3 c hc
  · simp at hu
    obtain ⟨k, hk, rfl⟩ := hu
    obtain ⟨u', h1, h2, _⟩ := hat k hk
    rw [h1]; exact h2
  · have hk : k < n * sz := by have := ze hu; simpa using this
    obtain ⟨u', h1, _, _⟩ := hat k hk
    simp [hk, h1] at hu
    subst hu
    exact h1

theorem row_src (S : Sim L σ w) {t g sz lo hi : Nat} {cs : List AV} {v : Value} (hv : RV w L σ (.rsl t g sz lo hi) v) (hx : σ[t]? = some (.row g sz cs)) :
    ∃ news, zoS P w sz v (hi - lo) news ∧ RVs w L σ ((cs.drop (lo * sz)).take ((hi - lo) * sz)) news ∧ (∀ u ∈ news, u.oneCell' = true) := by
  obtain ⟨b, c, rfl, _, hlh, hle, hb, hb', _, hcur⟩ := hv.rsl_inv
  obtain ⟨_, q2, q3, q4, q5⟩ := hcur sz cs hx
  obtain ⟨news, h1, h2, h3, h4⟩ := row_cells S hx lo (hi - lo) (by rw [show lo + (hi - lo) = hi by omega]; exact q2)
  refine ⟨news, ⟨h1, fun w' hw => ⟨by simp [Builtin.lenOf], ?_⟩⟩, h2, h3⟩
  rcases Nat.eq_zero_or_pos (hi - lo) with h0 | h0
  · have : news = [] := List.eq_nil_of_length_eq_zero (by rw [h1, h0]; simp)
    subst this
    cases b with
    | none => simp [Builtin.firstCells, h0]
    | some b => simp [Builtin.firstCells, h0, loadCells, loadCellsFrom]
  · rw [q5 (by omega)]
    have := run_loadCells_list (P := P) w' ⟨(L t).a.block, (L t).a.off + lo * sz, none⟩ news (fun j u hj => by rw [zbw, cell?_heap hw]; exact h4 j u hj)
    rw [h1] at this
    simp [Builtin.firstCells, this]

theorem zmK (id g sz : Nat) (cs : List AV) : ∀ (xs : List AV) (vs : List Value) (off i : Nat) (w : World), Sim L σ w → σ[id]? = some (.row g sz cs) → RVs w L σ xs vs → (∀ v ∈ vs, v.oneCell' = true) → (∀ c ∈ xs, sc c = true) →
    cs.length ≤ off + i → off + i + vs.length ≤ (L id).cap * sz →
    ∃ w', (storeCells ⟨(L id).a.block, (L id).a.off + off, none⟩ vs i).run P w = .ok () w' ∧ zcq L σ w L σ w' ∧ Sim L σ w' ∧
      (∀ k v, vs[k]? = some v → w'.cell? ⟨(L id).a.block, (L id).a.off + off + i + k, none⟩ = some v) ∧
      (∀ p, (p.block ≠ (L id).a.block ∨ p.off < (L id).a.off + off + i ∨ p.spot ≠ none) → w'.cell? p = w.cell? p)
  | [], [], off, i, w, S, _, _, _, _, _, _ => ⟨w, by simp [storeCells], zcq.refl _ _ _, S, by simp, fun _ _ => rfl⟩
  | [], v :: vs, _, _, _, _, _, hv, _, _, _, _ => by have := hv.1; simp at this
  | x :: xs, [], _, _, _, _, _, hv, _, _, _, _ => by have := hv.1; simp at this
  | x :: xs, v :: vs, off, i, w, S, hx, hv, hone, hsc, hlo, hhi => by
    simp only [List.length_cons] at hhi
    have hxv := hv.2 0 x v rfl rfl
    obtain ⟨s1, S1⟩ := row_store S hx (j := off + i) (by omega) hxv (hsc x (by simp))
    have e : σ.set id (.row g sz (cs.set (off + i) x)) = σ := by
      have e0 : cs.set (off + i) x = cs := List.set_eq_of_length_le (by omega)
      rw [e0]
      obtain ⟨hl, hh⟩ := List.getElem?_eq_some_iff.1 hx
      rw [← hh]; exact List.set_getElem_self hl
    rw [e, ← Nat.add_assoc] at s1 S1
    obtain ⟨_, _, _, _, h3, _⟩ := S.obj id _ hx
    obtain ⟨⟨u, hu⟩, hf⟩ := h3 ((L id).a.off + off + i) (by omega) (by omega)
    obtain ⟨w', r, s2, S2, hc, hk⟩ := zmK id g sz cs xs vs off (i + 1) _ S1 hx ⟨by have := hv.1; simpa using this, fun j b z hb hz => s1.rv (hv.2 (j + 1) b z hb hz)⟩ (fun v hv => hone v (by simp [hv])) (fun c hc => hsc c (by simp [hc])) (by omega) (by omega)
    have ho := hone v (by simp)
    have hst : (store ((Addr.mk (L id).a.block ((L id).a.off + off) none).add i) v).run P w = .ok () (w.setCell ⟨(L id).a.block, (L id).a.off + off + i, none⟩ v) := by
      rw [zbw]
      cases v <;> first | (simp [Value.oneCell'] at ho; done) | simp [store, Sem.run, hu, hf]
    refine ⟨w', by rw [storeCells]; simp [hst, r], s1.trans s2, S2, fun k x hk' => ?_, fun p hp => ?_⟩
    · cases k with
      | zero =>
        simp at hk'; subst hk'
        rw [hk _ (.inr (.inl (by dsimp only; omega)))]
        exact World.cell?_setCell_same w _ _ hu
      | succ k =>
        simp at hk'
        have := hc k x hk'
        rw [show (L id).a.off + off + i + (k + 1) = (L id).a.off + off + (i + 1) + k by omega]
        exact this
    · rw [hk p (Or.imp_right (Or.imp_left fun h => by omega) hp)]
      refine World.cell?_setCell_other w _ _ v fun e => ?_
      subst e
      rcases hp with h | h | h
      · exact h rfl
      · dsimp only at h; omega
      · exact h rfl

def RoomRun (P : Program) (w : World) (t u ty : TypeId) (vy : Value) (sz m : Nat) (news : List Value) : Prop :=
  ∀ (base : Option Addr) (n cap : Nat), n + m ≤ cap → (Builtin.append_ #[t, u] ty #[.slice base n cap, vy]).run P w =
      ((match base with | some a => storeCells (a.add (n * sz)) news | none => pure ()).run P w).andThen fun _ w' => .ok (.slice base (n + m) cap) w'
def GrowRun (P : Program) (w : World) (t u ty e : TypeId) (z vy : Value) (sz bytes m : Nat) (news : List Value) : Prop :=
  ∀ (base : Option Addr) (n cap : Nat) (olds : List Value), zoS P w sz (.slice base n cap) n olds → ¬ n + m ≤ cap → (n + m) * bytes ≤ 140737488355328 → (Builtin.append_ #[t, u] ty #[.slice base n cap, vy]).run P w =
      .ok (.slice (some ⟨w.heap.size, 0, none⟩) (n + m) (grownCap w (n + m) cap e)) (w.drew.alloc (.cells (olds.toArray ++ news.toArray ++ Builtin.zeroCells z.cells (grownCap w (n + m) cap e - (n + m))) e))

theorem zoq (S : Sim L σ w) {t u e : TypeId} {x : AV} {vx vy : Value} {sz bytes m : Nat} {ys : List AV} {z : Value} {ty : TypeId} {news : List Value}
    (hsz : 0 < sz) (hzs : z.cells.size = sz) (hR : RoomRun P w t u ty vy sz m news) (hG : GrowRun P w t u ty e z vy sz bytes m news)
    (hvx : RV w L σ x vx) (hnw : news.length = m * sz) (hnrv : RVs w L σ ys news) (hnone : ∀ u ∈ news, u.oneCell' = true) (hysc : ∀ c ∈ ys, sc c = true) (h : zor sz bytes x m ys σ K) :
    ∃ r v L' σ' w', (Builtin.append_ #[t, u] ty #[vx, vy]).run P w = .ok v w' ∧ zcq L σ w L' σ' w' ∧ Sim L' σ' w' ∧ RV w' L' σ' r v ∧ K r σ' := by
  have hyl : ys.length = m * sz := by rw [← hnw]; exact hnrv.1.symm
  have size_new : ∀ {olds : List Value} {n cap : Nat}, olds.length = n * sz →
      (olds.toArray ++ news.toArray ++ Builtin.zeroCells z.cells (grownCap w (n + m) cap e - (n + m))).size = grownCap w (n + m) cap e * sz := fun {olds n cap} hol => by
    have hge := grownCap_ge w (n + m) cap e
    simp only [Array.size_append, List.size_toArray, size_zeroCells, hzs, hol, hnw, ← Nat.add_mul]
    congr 1; omega
  unfold zor at h
  split at h
  · -- a slice without places
    obtain ⟨hfit, hK⟩ := h
    generalize hes : ([] : List (List D)) = es0 at hvx
    cases hvx with | exact _ b hrd =>
    subst hes
    simp only [List.length_nil] at hrd ⊢
    rcases Nat.eq_zero_or_pos m with hm | hm
    · subst hm
      have hys0 : ys = [] := List.eq_nil_of_length_eq_zero (by rw [hyl]; simp)
      have hn0 : news = [] := List.eq_nil_of_length_eq_zero (by rw [hnw]; simp)
      subst hys0
      subst hn0
      have hrun := hR b 0 0 (by omega)
      have hrun' : (Builtin.append_ #[t, u] ty #[.slice b 0 0, vy]).run P w = .ok (.slice b 0 0) w := by
        rw [hrun]
        cases b <;> simp [storeCells]
      let l : Loc := { a := ⟨0, 0, none⟩, cap := 0 }
      have hno : ∀ p q, ¬ zdB l (.row 0 sz []) p q := fun p q hf => by
        obtain ⟨_, h1, h2⟩ := hf
        dsimp only [l] at h1 h2; omega
      have get : ∀ {id ob}, (σ ++ [zc.row 0 sz []])[id]? = some ob → (id < σ.length ∧ σ[id]? = some ob) ∨ (id = σ.length ∧ ob = .row 0 sz []) := fun {id ob} hy => by
        rcases Nat.lt_or_ge id σ.length with hl | hl
        · rw [List.getElem?_append_left hl] at hy; exact .inl ⟨hl, hy⟩
        · rw [List.getElem?_append_right hl] at hy
          have e : id = σ.length := by have := ze hy; simp at this; omega
          subst e; simp at hy; exact .inr ⟨rfl, hy.symm⟩
      have st : zcq L σ w (zgr L σ.length l) (σ ++ [.row 0 sz []]) w :=
        ⟨rfl, rfl, rfl, Nat.le_refl _, fun _ _ _ => rfl, fun _ _ _ _ => rfl, fun _ _ _ _ => rfl, fun p q _ hf => by
          obtain ⟨id, ob, ho, hf⟩ := hf
          rcases get ho with ⟨hl, ho⟩ | ⟨rfl, rfl⟩
          · rw [zaO (by omega)] at hf; exact ⟨id, ob, ho, hf⟩
          · rw [zF] at hf; exact absurd hf (hno _ _), by simp, fun id ob hob => by
            have hl := ze hob
            exact .stay (by rw [List.getElem?_append_left hl]; exact hob) (zaO (by omega))⟩
      have S' : Sim (zgr L σ.length l) (σ ++ [.row 0 sz []]) w := by
        refine ⟨fun id ob hob => ?_, fun i j p q b' o' hij hp hq hfp hfq => ?_⟩
        · rcases get hob with ⟨hl, hob⟩ | ⟨rfl, rfl⟩
          · rw [zaO (by omega)]
            exact (S.obj id ob hob).keep st (fun _ _ _ => ⟨rfl, rfl⟩) (fun _ _ => rfl)
          · rw [zF]
            refine ⟨hsz, ⟨0, by simp, by simp⟩, by simp, fun h => by simp [l] at h, fun o h1 h2 => ?_, by simp⟩
            dsimp only [l] at h1 h2; omega
        · rcases get hp with ⟨hl, hp1⟩ | ⟨e1, e2⟩
          · rcases get hq with ⟨hl', hq1⟩ | ⟨e1, e2⟩
            · rw [zaO (by omega)] at hfp hfq
              exact S.apart i j p q b' o' hij hp1 hq1 hfp hfq
            · rw [e1, zF, e2] at hfq
              exact hno _ _ hfq
          · rw [e1, zF, e2] at hfp
            exact hno _ _ hfp
      refine ⟨.rsl σ.length 0 sz 0 0, _, _, _, w, hrun', st, S', ?_, hK⟩
      refine .rsl σ.length 0 sz 0 0 b 0 ⟨_, List.getElem?_concat_length, .inl rfl⟩ (fun _ _ _ _ => Nat.zero_le _) (Nat.le_refl _) (Nat.le_refl _) (fun _ => rfl) (fun h => absurd h (Nat.lt_irrefl _)) (fun sz' cs' e => ?_)
      rw [List.getElem?_concat_length] at e
      cases e
      rw [zF]
      exact ⟨rfl, by simp, Nat.zero_le _, rfl, fun h => absurd h (by simp [l])⟩
    · have holds : zoS P w sz (.slice b 0 0) 0 [] := ⟨by simp, fun w' _ => by cases b <;> simp [Builtin.lenOf, Builtin.firstCells, loadCells, loadCellsFrom]⟩
      have hrun := hG b 0 0 [] holds (by omega) (by simpa using hfit)
      have hsize := size_new (olds := []) (n := 0) (cap := 0) (by simp)
      have hge := grownCap_ge w (0 + m) 0 e
      generalize hgc : grownCap w (0 + m) 0 e = gc at *
      generalize hcs : ([] : List Value).toArray ++ news.toArray ++ Builtin.zeroCells z.cells (gc - (0 + m)) = cells at *
      obtain ⟨S1, s1⟩ := S.drew (w.drawn + 1)
      have hpre : cells.toList.take ys.length = news := by
        rw [← hcs, hyl, ← hnw]
        simp
      obtain ⟨st, S', hr⟩ := new_row (w := w.drew) S1 (cells := cells) (cs := ys) (by rw [hpre]; exact ⟨hnrv.1, fun i c v hc hv => s1.rv (hnrv.2 i c v hc hv)⟩) e sz m gc hsz hyl (by omega) hsize hysc
      refine ⟨.rsl σ.length 0 sz 0 m, _, _, _, _, hrun, s1.trans st, S', ?_, hK⟩
      rw [Nat.zero_add]
      exact hr
  · -- a row of the call's own
    rename_i t g s lo hi0
    split at h
    · rename_i g' s' cs hx
      obtain ⟨rfl, rfl, rfl, hlen, hfit, hK⟩ := h
      obtain ⟨b, c, rfl, hrow, hlh, hle, hbn, hbs, hgen, hcur⟩ := hvx.rsl_inv
      obtain ⟨_, q2, q3, q4, q5⟩ := hcur s cs hx
      have ho := S.obj t _ hx
      obtain ⟨o0, ⟨n0, o1, o1'⟩, osc, olt, oall, ocells⟩ := ho
      have hdl : (cs.drop (lo * s)).length = (hi0 - lo) * s := by rw [List.length_drop, hlen, Nat.sub_mul]
      have hnl : (cs.drop (lo * s) ++ ys).length = (hi0 - lo + m) * s := by rw [List.length_append, hdl, hyl, Nat.add_mul]
      have hscn : ∀ c ∈ cs.drop (lo * s) ++ ys, sc c = true := fun c hc => (List.mem_append.1 hc).elim (fun h => osc c (List.mem_of_mem_drop h)) (hysc c)
      by_cases hroom : hi0 - lo + m ≤ c
      · have hrun := hR b (hi0 - lo) c hroom
        -- the spare cells are written
        have hst : ∃ w1, ((match b with | some a => storeCells (a.add ((hi0 - lo) * s)) news | none => pure ()).run P w) = .ok () w1 ∧ zcq L σ w L σ w1 ∧ Sim L σ w1 ∧
            (∀ k v, news[k]? = some v → w1.cell? ⟨(L t).a.block, (L t).a.off + hi0 * s + k, none⟩ = some v) ∧ (∀ p, p.off < (L t).a.off + hi0 * s → w1.cell? p = w.cell? p) := by
          rcases Nat.eq_zero_or_pos m with hm | hm
          · have hn0 : news = [] := List.eq_nil_of_length_eq_zero (by rw [hnw, hm]; simp)
            subst hn0
            exact ⟨w, by cases b <;> simp [storeCells], zcq.refl _ _ _, S, by simp, fun _ _ => rfl⟩
          · have hlt : lo < (L t).cap := by omega
            rw [q5 hlt]
            have hmul : (hi0 + m) * s ≤ (L t).cap * s := Nat.mul_le_mul_right _ (by omega)
            rw [Nat.add_mul] at hmul
            obtain ⟨w1, r, s1, S1, h4, h5⟩ := zmK (P := P) t g' s cs ys news (hi0 * s) 0 w S hx hnrv hnone hysc (by omega) (by rw [hnw]; omega)
            refine ⟨w1, ?_, s1, S1, fun k v hk => h4 k v hk, fun p hp => h5 p (.inr (.inl hp))⟩
            have e1 : (Addr.mk (L t).a.block ((L t).a.off + lo * s) none).add ((hi0 - lo) * s) = ⟨(L t).a.block, (L t).a.off + hi0 * s, none⟩ := by
              rw [zbw, Nat.sub_mul]
              have : lo * s ≤ hi0 * s := Nat.mul_le_mul_right _ hlh
              congr 1; omega
            show (storeCells ((Addr.mk (L t).a.block ((L t).a.off + lo * s) none).add ((hi0 - lo) * s)) news).run P w = _
            rw [e1]; exact r
        obtain ⟨w1, r1, s1, S1, hnew, hold⟩ := hst
        let l : Loc := { a := ⟨(L t).a.block, (L t).a.off + lo * s, none⟩, cap := (L t).cap - lo }
        have hmulc : lo * s + ((L t).cap - lo) * s = (L t).cap * s := by rw [← Nat.add_mul]; congr 1; omega
        obtain ⟨s2, S2⟩ := zqG S1 hx l (cs.drop (lo * s) ++ ys) (.inl rfl) (fun b' o' hf => .inl ⟨hf.1, by have := hf.2.1; dsimp only [l] at this; omega, by have := hf.2.2; dsimp only [l] at this; omega⟩) (fun htr => by
          obtain ⟨p0, _, _, plt, pall, pcells⟩ := S1.obj t _ hx
          refine ⟨hsz, ⟨hi0 - lo + m, hnl, by dsimp only [l]; omega⟩, hscn, fun h => by dsimp only [l] at h ⊢; exact plt (by omega), fun o' h1 h2 => ?_, fun j d hj => ?_⟩
          · dsimp only [l] at h1 h2 ⊢
            exact pall o' (by omega) (by omega)
          · dsimp only [l]
            rcases Nat.lt_or_ge j (cs.drop (lo * s)).length with hlt | hge
            · rw [List.getElem?_append_left hlt, List.getElem?_drop] at hj
              obtain ⟨v, h1, h2⟩ := pcells _ d hj
              exact ⟨v, by rw [Nat.add_assoc]; exact h1, htr _ _ h2⟩
            · rw [List.getElem?_append_right hge] at hj
              have hlt := ze hj
              obtain ⟨nv, hnv⟩ : ∃ nv, news[j - (cs.drop (lo * s)).length]? = some nv := ⟨_, List.getElem?_eq_getElem (by rw [hnw]; omega)⟩
              refine ⟨_, ?_, htr _ _ (s1.rv (hnrv.2 _ d _ hj hnv))⟩
              have := hnew _ _ hnv
              rw [hdl] at this
              have e2 : lo * s ≤ hi0 * s := Nat.mul_le_mul_right _ hlh
              rw [← this]
              congr 1
              rw [Nat.sub_mul]
              rw [hdl, Nat.sub_mul] at hge
              congr 1; omega)
        refine ⟨.rsl t (g' + 1) s 0 (hi0 - lo + m), .slice b (hi0 - lo + m) c, _, _, w1, ?_, s1.trans s2, S2, ?_, hK⟩
        · exact hrun.trans (congrArg (Result.andThen · _) r1)
        · have hget : (σ.set t (.row (g' + 1) s (cs.drop (lo * s) ++ ys)))[t]? = some (.row (g' + 1) s (cs.drop (lo * s) ++ ys)) := by simp [ze hx]
          refine .rsl t (g' + 1) s 0 (hi0 - lo + m) b c ⟨_, hget, .inl rfl⟩ (fun g2 sz2 cs2 e => by rw [hget] at e; cases e; omega) (Nat.zero_le _) (by omega) hbn hbs (fun sz' cs' e => ?_)
          rw [hget] at e
          cases e
          rw [zF]
          refine ⟨rfl, by rw [hnl]; omega, by dsimp only [l]; omega, by dsimp only [l]; omega, fun hlt => ?_⟩
          dsimp only [l] at hlt ⊢
          rw [q5 (by omega)]; simp
      · obtain ⟨olds, holds, horv, hoone⟩ := row_src (P := P) S hvx hx
        have hrun := hG b (hi0 - lo) c olds holds hroom hfit
        have hsize := size_new (olds := olds) (n := hi0 - lo) (cap := c) holds.1
        have hge := grownCap_ge w (hi0 - lo + m) c e
        generalize hgc : grownCap w (hi0 - lo + m) c e = gc at *
        generalize hcs : olds.toArray ++ news.toArray ++ Builtin.zeroCells z.cells (gc - (hi0 - lo + m)) = cells at *
        obtain ⟨S1, s1⟩ := S.drew (w.drawn + 1)
        let l : Loc := { a := ⟨w.heap.size, 0, none⟩, cap := gc }
        have hcell : ∀ j, (w.drew.alloc (.cells cells e)).cell? ⟨w.heap.size, j, none⟩ = cells[j]? := fun j => cell?_alloc_any w.drew cells e (0, 0) j
        have hdrop : (cs.drop (lo * s)).take ((hi0 - lo) * s) = cs.drop (lo * s) := List.take_of_length_le (by omega)
        rw [hdrop] at horv
        obtain ⟨s2, S2⟩ := zqG (w := w.drew) S1 hx l (cs.drop (lo * s) ++ ys) (.inr ⟨.cells cells e, rfl⟩) (fun b' o' hf => .inr hf.1) (fun htr => by
          refine ⟨hsz, ⟨hi0 - lo + m, hnl, hge⟩, hscn, fun _ => by simp [l], fun o' h1 h2 => ⟨?_, World.frozen?_alloc_at cells e _ o' rfl⟩, fun j d hj => ?_⟩
          · dsimp only [l] at h1 h2 ⊢
            have hlt : o' < cells.size := by omega
            exact ⟨cells[o'], by rw [hcell]; exact Array.getElem?_eq_getElem hlt⟩
          · dsimp only [l]
            rw [Nat.zero_add, hcell]
            rcases Nat.lt_or_ge j (cs.drop (lo * s)).length with hlt | hge'
            · rw [List.getElem?_append_left hlt] at hj
              have hov : olds[j]? = some (olds[j]'(by rw [holds.1]; omega)) := List.getElem?_eq_getElem _
              refine ⟨_, ?_, htr _ _ (s1.rv (horv.2 j d _ hj hov))⟩
              rw [← hcs, Array.getElem?_append_left (by simp; rw [holds.1, hnw]; omega), Array.getElem?_append_left (by simp; rw [holds.1]; omega)]
              simpa using hov
            · rw [List.getElem?_append_right hge'] at hj
              have hlt := ze hj
              obtain ⟨nv, hnv⟩ : ∃ nv, news[j - (cs.drop (lo * s)).length]? = some nv := ⟨_, List.getElem?_eq_getElem (by rw [hnw]; omega)⟩
              refine ⟨_, ?_, htr _ _ (s1.rv (hnrv.2 _ d _ hj hnv))⟩
              rw [← hcs, Array.getElem?_append_left (by simp; rw [holds.1, hnw]; omega), Array.getElem?_append_right (by simp; rw [holds.1]; omega)]
              rw [hdl] at hnv
              have e3 : j - olds.toArray.size = j - (hi0 - lo) * s := by simp [holds.1]
              rw [e3, List.getElem?_toArray]
              exact hnv)
        refine ⟨.rsl t (g' + 1) s 0 (hi0 - lo + m), _, _, _, _, hrun, s1.trans s2, S2, ?_, hK⟩
        have hget : (σ.set t (.row (g' + 1) s (cs.drop (lo * s) ++ ys)))[t]? = some (.row (g' + 1) s (cs.drop (lo * s) ++ ys)) := by simp [ze hx]
        refine .rsl t (g' + 1) s 0 (hi0 - lo + m) _ gc ⟨_, hget, .inl rfl⟩ (fun g2 sz2 cs2 e => by rw [hget] at e; cases e; omega) (Nat.zero_le _) (by omega) (fun e => by cases e) (fun _ => ⟨_, _, rfl⟩) (fun sz' cs' e => ?_)
        rw [hget] at e
        cases e
        rw [zF]
        exact ⟨rfl, by rw [hnl]; omega, by dsimp only [l]; omega, by dsimp only [l]; omega, fun _ => by simp [l]⟩
    · exact h.elim
  · exact h.elim

theorem snd_appendR (S : Sim L σ w) (F : FR w L σ fr a.tmps) {c : Call} {t u e : TypeId} {x y : Operand} {x' y' : Opd} {sz bytes : Nat} {zz : List AV} {inf : TypeInfo} (ho : o.op = .call c) (hcal : c.callee = .builtin .append) (hat : c.argTypes.toList = [t, u]) (hargs : c.args.toList = [x, y])
    (ht : P.underlying t = some (.slice e)) (hu : (∃ e', P.underlying u = some (.slice e')) ∨ P.underlying u = some .string) (hs : sizeOf? P e = some sz) (hi : P.info? e = some inf) (hz : zlW P e = some zz) (hsz : 0 < sz) (hzl : zz.length = sz) (hb0 : 0 < inf.bytes) (hb : inf.bytes = bytes)
    (hx : opd x = some x') (hy : opd y = some y') (h : zar P (.append true sz bytes zz x' y') fr σ K) : zai P o a L σ w K := by
  have hargs' : c.args = #[x, y] := by apply Array.ext'; simpa using hargs
  have hat' : c.argTypes = #[t, u] := by apply Array.ext'; simpa using hat
  have hvx := zA F hx
  have hvy := zA F hy
  have fin : ∀ {v w'}, (Builtin.append_ #[t, u] o.type #[a.eval x, a.eval y]).run P w = .ok v w' → (execOp a.eval o).run P w = .ok (.value v) w' := fun {v w'} h1 => by
    simp [execOp, ho, resolve, hcal, hargs', hat', invoke, builtin, h1]
  have key : ∀ {m ys}, SrcA P w L σ sz (a.eval y) m ys → zor sz bytes (ev fr x') m ys σ K → zai P o a L σ w K := fun {m ys} h1 h2 => by
    have hisz : inf.size = sz := by simp only [sizeOf?, hi, Option.map_some, Option.some.injEq] at hs; exact hs
    obtain ⟨inf', z, hi', hz1, hz2⟩ := zev hz
    rw [hi] at hi'; cases hi'
    have hzs : z.cells.size = sz := by have := (mapM_some hz2).1; simp at this; omega
    obtain ⟨news, hnews, hnrv, hnone, hysc⟩ := h1
    obtain ⟨r, v, L', σ', w', hrun, st, S', hr, hK⟩ := zoq (P := P) (ty := o.type) (t := t) (u := u) (e := e) (vy := a.eval y) (z := z) S hsz hzs (fun base n cap hroom => run_append_room' ht hu hs hnews hroom) (fun base n cap olds holds hroom hfit => run_append_grow' ht hu hi hz1 hisz hb (hb ▸ hb0) hnews holds hroom hfit) hvx hnews.1 hnrv hnone hysc h2
    exact ⟨r, v, L', σ', w', .inl (fin hrun), st, S', hr, hK⟩
  simp only [zar, zgp] at h
  split at h
  · rename_i tt g s lo hi0 hid
    rw [hid] at hvy
    split at h
    · rename_i g' s' cs hcs
      obtain ⟨rfl, rfl, rfl, h⟩ := h
      obtain ⟨news, h1, h2, h3⟩ := row_src (P := P) S hvy hcs
      obtain ⟨_, _, osc, _, _, _⟩ := S.obj tt _ hcs
      exact key ⟨news, h1, h2, h3, fun c hc => osc c (List.mem_of_mem_drop (List.mem_of_mem_take hc))⟩ h
    · exact h.elim
  · split at h
    · rename_i ys hys
      obtain ⟨hysz, h⟩ := h
      exact key (srcA_rd hysz (zpA (P := P) S hvy hys hysz)) h
    · exact h.elim

theorem rep_sc {z : Value} {zz : List AV} (h : z.cells.toList.mapM litS = some zz) (m : Nat) : ∀ c ∈ rep zz m, sc c = true := by
  have h1 : ∀ c ∈ zz, sc c = true := fun c hc => by
    obtain ⟨g1, g2⟩ := mapM_some h
    obtain ⟨i, hi⟩ := List.mem_iff_getElem?.1 hc
    have hlt := ze hi
    have hv : z.cells.toList[i]? = some (z.cells.toList[i]'(by omega)) := List.getElem?_eq_getElem _
    have := g2 i _ c hv hi
    unfold litS at this
    split at this <;> first | (cases this; rfl) | (cases this; done)
  induction m with
  | zero => intro c hc; cases hc
  | succ m ih => intro c hc; simp only [rep] at hc; exact (List.mem_append.1 hc).elim (h1 c) (ih c)

theorem zkg {z : Value} {zz : List AV} (hr : RVs w L σ zz z.cells.toList) {sz : Nat} (hsz : 0 < sz) (hl : zz.length = sz) (m : Nat) : RVs w L σ (rep zz m) (Builtin.zeroCells z.cells m).toList := by
  have hzs : z.cells.size = sz := by have := hr.1; simp at this; omega
  refine ⟨by simp [zgv, Builtin.zeroCells, hl, hzs], fun i c v hc hv => ?_⟩
  have hlt : i < m * sz := by have := ze hc; rw [zgv, hl] at this; exact this
  rw [rep_get zz sz hl hsz m i hlt] at hc
  simp [Builtin.zeroCells, hzs, hlt] at hv
  have hm : i % sz < sz := Nat.mod_lt _ hsz
  refine hr.2 (i % sz) c v hc ?_
  rw [← hv]
  have : i % sz < z.cells.size := by omega
  simp [this]

set_option maxRecDepth 100000 in
theorem zqE {t u e ty : TypeId} {k0 : IntKind} {inf : TypeInfo} {z : Value} {sz bytes m : Nat} {base : Option Addr} {n cap : Nat} (ht : P.underlying t = some (.slice e)) (hu : P.underlying u = some (.int k0)) (hs : sizeOf? P e = some sz) (hi : P.info? e = some inf) (hz : inf.zero = some z)(hb : inf.bytes = bytes)
   (hwrap : IntKind.i64.wrap (m : Int) = m) (hfit : m * bytes ≤ 140737488355328) (hroom : n + m ≤ cap) (hzs : z.cells.size = sz) (hsz : 0 < sz) :
  (Builtin.append_ #[t, u] ty #[.slice base n cap, .int .i64 m]).run P w =
      ((match base with | some a => storeCells (a.add (n * sz)) (Builtin.zeroCells z.cells m).toList | none => pure ()).run P w).andThen fun _ w' => .ok (.slice base (n + m) cap) w' := by
  have h48 : ¬ (281474976710656 < (m : Int) * bytes) := by
    have : ((m * bytes : Nat) : Int) ≤ (140737488355328 : Nat) := Int.ofNat_le.2 hfit
    rw [Int.natCast_mul] at this; omega
  have h0 : ¬ ((m : Int) < 0) := by omega
  have hzv : ∀ w', (zeroValue e).run P w' = .ok z w' := fun w' => by simp [zeroValue, typeInfo, program, Sem.run, hi, hz]
  have hti : ∀ w', (typeInfo e).run P w' = .ok inf w' := fun w' => by simp [typeInfo, program, Sem.run, hi]
  have hai : ∀ w', (asInt (.int .i64 m)).run P w' = .ok (m : Int) w' := fun w' => by simp [asInt, asIntOf]
  by_cases hm : m * sz = 0
  · have : m = 0 := by rcases Nat.mul_eq_zero.1 hm with h | h <;> omega
    subst this
    simp at hwrap hai hroom
    cases base <;> simp [Builtin.append_, run_underlying ht, run_underlying hu, zbj hs, hai, hwrap, hti, hb, hroom, Builtin.zeroCells, storeCells]
  · cases base <;> simp [Builtin.append_, run_underlying ht, run_underlying hu, zbj hs, hai, hwrap, hti, hb, hroom, h48, h0, hm, hzv]
set_option maxRecDepth 100000 in
theorem zqF {t u e ty : TypeId} {k0 : IntKind} {inf : TypeInfo} {z : Value} {sz bytes m : Nat} {base : Option Addr} {n cap : Nat} {olds : List Value} (ht : P.underlying t = some (.slice e)) (hu : P.underlying u = some (.int k0)) (hs : sizeOf? P e = some sz) (hi : P.info? e = some inf) (hz : inf.zero = some z)(hb : inf.bytes = bytes)
   (hwrap : IntKind.i64.wrap (m : Int) = m) (hfit : (n + m) * bytes ≤ 140737488355328) (hb0 : 0 < bytes) (hroom : ¬ n + m ≤ cap) (hzs : z.cells.size = sz) (hsz : 0 < sz) (ho : zoS P w sz (.slice base n cap) n olds) :
  (Builtin.append_ #[t, u] ty #[.slice base n cap, .int .i64 m]).run P w =
      .ok (.slice (some ⟨w.heap.size, 0, none⟩) (n + m) (grownCap w (n + m) cap e)) (w.drew.alloc (.cells (olds.toArray ++ (Builtin.zeroCells z.cells m).toList.toArray ++ Builtin.zeroCells z.cells (grownCap w (n + m) cap e - (n + m))) e)) := by
  have hmul : m * bytes ≤ (n + m) * bytes := Nat.mul_le_mul_right _ (by omega)
  have hm1 : n + m ≤ (n + m) * bytes := by
    have : (n + m) * 1 ≤ (n + m) * bytes := Nat.mul_le_mul_left _ (by omega)
    omega
  have h48 : ¬ (281474976710656 < (m : Int) * bytes) := by
    have : ((m * bytes : Nat) : Int) ≤ (140737488355328 : Nat) := Int.ofNat_le.2 (Nat.le_trans hmul hfit)
    rw [Int.natCast_mul] at this; omega
  have h0 : ¬ ((m : Int) < 0) := by omega
  have hzv : ∀ w', (zeroValue e).run P w' = .ok z w' := fun w' => by simp [zeroValue, typeInfo, program, Sem.run, hi, hz]
  have hti : ∀ w', (typeInfo e).run P w' = .ok inf w' := fun w' => by simp [typeInfo, program, Sem.run, hi]
  have hai : ∀ w', (asInt (.int .i64 m)).run P w' = .ok (m : Int) w' := fun w' => by simp [asInt, asIntOf]
  obtain ⟨h3, h4⟩ := ho.2 w.drew rfl
  have hg := growslice_fits (need := n + m) (old := cap) (bytes := bytes) (by omega) hfit
  have hg' : ¬ (281474976710656 < Builtin.nextslicecap (n + m) cap * bytes) := by omega
  have hmax : ¬ (9223372036854775807 < (n : Int) + m) := by omega
  by_cases hm : m * sz = 0
  · have : m = 0 := by rcases Nat.mul_eq_zero.1 hm with h | h <;> omega
    subst this
    have hai0 : ∀ w', (asInt (.int .i64 0)).run P w' = .ok (0 : Int) w' := fun w' => by simp [asInt, asIntOf]
    have hw0 : IntKind.i64.wrap 0 = 0 := hwrap
    have hr0 : ¬ n ≤ cap := by omega
    have hx0 : ¬ 9223372036854775807 < (n : Int) := by omega
    have hg0 : ¬ 281474976710656 < Builtin.nextslicecap n cap * bytes := hg'
    simp [Builtin.append_, run_underlying ht, run_underlying hu, zbj hs, hai0, hw0, hti, hb, hr0, hg0, hx0, Question.forced, h4, newRow, grownCap, hzv, Builtin.zeroCells]
  · simp [Builtin.append_, run_underlying ht, run_underlying hu, zbj hs, hai, hwrap, hti, hb, hroom, h48, h0, hm, hzv, hg', hmax, Question.forced, h4, newRow, grownCap]

theorem snd_cap (S : Sim L σ w) (F : FR w L σ fr a.tmps) {c : Call} {t e : TypeId} {x : Operand} {x' : Opd} (ho : o.op = .call c) (hcal : c.callee = .builtin .cap) (hat : c.argTypes[0]? = some t) (hargs : c.args.toList = [x]) (ht : P.underlying t = some (.slice e)) (hx : opd x = some x')
    (h : zar P (.cap x') fr σ K) : zai P o a L σ w K := by
  have hargs' : c.args = #[x] := by apply Array.ext'; simpa using hargs
  have hv := zA F hx
  simp only [zar, capC] at h
  split at h
  · rename_i es hid
    rw [hid] at hv
    obtain ⟨b, hX, _⟩ := zhK hv
    refine .same S (r := .d (.int .i64 es.length)) (v := .int .i64 es.length) ?_ (.d _ _ (.int _ _)) h
    simp [execOp, ho, resolve, hcal, hargs', invoke, builtin, Builtin.cap_, hat, hX, run_underlying ht, goInt]
  · exact h.elim

theorem snd_appz (S : Sim L σ w) (F : FR w L σ fr a.tmps) {c : Call} {t u e : TypeId} {k0 : IntKind} {x y : Operand} {x' y' : Opd} {sz bytes : Nat} {zz : List AV} {inf : TypeInfo} (ho : o.op = .call c) (hcal : c.callee = .builtin .append) (hat : c.argTypes.toList = [t, u]) (hargs : c.args.toList = [x, y])
    (ht : P.underlying t = some (.slice e)) (hu : P.underlying u = some (.int k0)) (hs : sizeOf? P e = some sz) (hi : P.info? e = some inf) (hz : zlW P e = some zz) (hsz : 0 < sz) (hzl : zz.length = sz) (hb0 : 0 < inf.bytes) (hb : inf.bytes = bytes)
    (hx : opd x = some x') (hy : opd y = some y') (h : zar P (.appz sz bytes zz x' y') fr σ K) : zai P o a L σ w K := by
  have hargs' : c.args = #[x, y] := by apply Array.ext'; simpa using hargs
  have hat' : c.argTypes = #[t, u] := by apply Array.ext'; simpa using hat
  have hvx := zA F hx
  have hvy := zA F hy
  simp only [zar, appzC] at h
  split at h
  · rename_i k hid
    rw [hid] at hvy
    have hY := hvy.int_inv
    obtain ⟨hk0, h⟩ := h
    have hisz : inf.size = sz := by simp only [sizeOf?, hi, Option.map_some, Option.some.injEq] at hs; exact hs
    obtain ⟨inf', z, hi', hz1, hz2⟩ := zev hz
    rw [hi] at hi'; cases hi'
    have hzs : z.cells.size = sz := by have := (mapM_some hz2).1; simp at this; omega
    have hzrv := zkX hz2 (w := w) (L := L) (σ := σ)
    obtain ⟨m, rfl⟩ : ∃ m : Nat, k = m := ⟨k.toNat, by omega⟩
    simp only [Int.toNat_natCast] at h
    have hfit : m * bytes ≤ 140737488355328 := by
      unfold zor at h
      split at h
      · exact h.1
      · split at h
        · obtain ⟨_, _, _, _, hf, _⟩ := h
          exact Nat.le_trans (Nat.mul_le_mul_right _ (by omega)) hf
        · exact h.elim
      · exact h.elim
    have hm48 : m ≤ 140737488355328 := by
      have : m * 1 ≤ m * bytes := Nat.mul_le_mul_left _ (by omega)
      omega
    have hwrap : IntKind.i64.wrap (m : Int) = m := by
      simp [IntKind.wrap, IntKind.bits, IntKind.signed]; omega
    have hone : ∀ u ∈ (Builtin.zeroCells z.cells m).toList, u.oneCell' = true := fun u hu => by
      have hr := zkg hzrv hsz hzl m
      obtain ⟨i, hi2⟩ := List.mem_iff_getElem?.1 hu
      have hlt := ze hi2
      have hc : (rep zz m)[i]? = some ((rep zz m)[i]'(by rw [← hr.1]; exact hlt)) := List.getElem?_eq_getElem _
      exact (hr.2 i _ u hc hi2).one (rep_sc hz2 m _ (List.mem_of_getElem? hc))
    have hlen : (Builtin.zeroCells z.cells m).toList.length = m * sz := by simp [Builtin.zeroCells, hzs]
    obtain ⟨r, v, L', σ', w', hrun, st, S', hr, hK⟩ := zoq (P := P) (ty := o.type) (t := t) (u := u) (e := e) (vy := .int .i64 m) (z := z) S hsz hzs
      (fun base n cap hroom => zqE ht hu hs hi hz1 hb hwrap hfit hroom hzs hsz)
      (fun base n cap olds holds hroom hfit => zqF ht hu hs hi hz1 hb hwrap hfit (hb ▸ hb0) hroom hzs hsz holds) hvx hlen (zkg hzrv hsz hzl m) hone (fun c hc => rep_sc hz2 m c hc) h
    refine ⟨r, v, L', σ', w', .inl ?_, st, S', hr, hK⟩
    simp [execOp, ho, resolve, hcal, hargs', hat', invoke, builtin, hY, hrun]
  · exact h.elim
end

open Go.MapKept
section
variable {P : Program} {o : Oper} {i : I} {fr : zE} {σ : List zc} {K : AV → List zc → Prop} {L : Nat → Loc} {w : World} {a : Act}


theorem zna {r : Nat} {es : Array MapEntry} {clock : Nat} (hb : w.heap[r]? = some (.map es clock)) : (getObj r).run P w = .ok (.map es clock) w := by
  simp [getObj, Sem.run, hb]
theorem zpD {r : Nat} {es : Array MapEntry} {clock : Nat} (o : Obj) (hb : w.heap[r]? = some (.map es clock)) : (setObj r o).run P w = .ok () { w with heap := w.heap.setIfInBounds r o } := by
  simp [setObj, Sem.run, hb]

theorem zom {t : TypeId} {kk : KK} (h : kkOf P t = some kk) :
    (kk = .int ∧ ∃ k, P.underlying t = some (.int k)) ∨ (kk = .str ∧ P.underlying t = some .string) ∨ (∃ n, kk = .ints n ∧ (zpj P t = some n ∨ arrB P t = some n)) := by
  unfold kkOf at h
  split at h
  · rename_i k hk; cases h; exact .inl ⟨rfl, k, hk⟩
  · rename_i hk; cases h; exact .inr (.inl ⟨rfl, hk⟩)
  · rename_i fs hk
    simp only [Option.map_eq_some_iff] at h
    obtain ⟨n, hn, rfl⟩ := h
    exact .inr (.inr ⟨n, rfl, .inl hn⟩)
  · simp only [Option.map_eq_some_iff] at h
    obtain ⟨n, hn, rfl⟩ := h
    exact .inr (.inr ⟨n, rfl, .inr hn⟩)
  · cases h
theorem zoP {t : TypeId} {n : Nat} (h : arrB P t = some n) : ∃ e q i, P.underlying t = some (.array n e) ∧ P.underlying e = some (.int q) ∧ P.cellsOf e = 1 ∧ P.info? e = some i := by
  unfold arrB at h
  split at h
  · rename_i n' e ht
    split at h
    · rename_i q hq
      split at h
      · rename_i hc
        cases h
        obtain ⟨i, hi⟩ := info_of_underlying hq
        exact ⟨e, q, i, ht, hq, hc, hi⟩
      · cases h
    · cases h
  · cases h
def wideB (P : Program) (t : TypeId) : Bool := (zpj P t).isSome || (arrB P t).isSome
theorem zjd {t : TypeId} (h : wideB P t = true) : (∃ fs, P.underlying t = some (.struct fs)) ∨ ∃ n e, P.underlying t = some (.array n e) := by
  simp only [wideB, Bool.or_eq_true, Option.isSome_iff_exists] at h
  rcases h with ⟨n, hn⟩ | ⟨n, hn⟩
  · obtain ⟨fs, _, hu1, _⟩ := zjO hn
    exact .inl ⟨fs, hu1⟩
  · obtain ⟨e, _, _, hu1, _⟩ := zoP hn
    exact .inr ⟨n, e, hu1⟩
theorem wide_of {t : TypeId} {n : Nat} (h : zpj P t = some n ∨ arrB P t = some n) : wideB P t = true := by
  rcases h with h | h <;> simp [wideB, h]
theorem zqM {e : TypeId} {q : IntKind} (he : P.underlying e = some (.int q)) {us : List Value} {s : Nat} {k : IntKind} {a : Int} (hu : us[s]? = some (.int k a)) : (part e us.toArray s).run P w = .ok (.int k a) w := by
  have hag : zny P e = some false := by simp [zny, he]
  simp [part, zea hag, hu]
theorem zqS {us : List Value} {x : AV} {xs : List AV} {s : Nat} {k : IntKind} {a : Int} (hx : RVs w L σ (.d (.int k a) :: xs) (us.drop s)) : us[s]? = some (.int k a) ∧ RVs w L σ xs (us.drop (s + 1)) := by
  have h1 := hx.1; simp at h1
  have h2 : us[s]? = some (us[s]'(by omega)) := List.getElem?_eq_getElem _
  have := hx.2 0 _ (us[s]'(by omega)) rfl (by simp [List.getElem?_drop, h2])
  exact ⟨by rw [h2, this.int_inv], by simp; omega, fun j c u hc hu => hx.2 (j + 1) c u hc (by rw [List.getElem?_drop] at hu ⊢; rw [← hu]; congr 1; omega)⟩
theorem znd (d : Nat) {e : TypeId} {q : IntKind} (he : P.underlying e = some (.int q)) : ∀ (n s : Nat) (xs ys : List AV) (us vs : List Value) (r : Bool), xs.length = n → RVs w L σ xs (us.drop s) → RVs w L σ ys (vs.drop s) → zbM xs ys = some r →
    (Op.eqItems (d + 1) e 1 us.toArray vs.toArray (List.range' s n)).run P w = .ok r w
  | 0, s, xs, ys, us, vs, r, hl, _, _, hr => by
    have : xs = [] := by simpa using hl
    subst this
    cases ys with
    | nil => simp [zbM] at hr; subst hr; simp [Op.eqItems]
    | cons y ys => simp [zbM] at hr
  | n + 1, s, xs, ys, us, vs, r, hl, hx, hy, hr => by
    cases xs with
    | nil => simp at hl
    | cons x xs =>
    cases ys with
    | nil => simp [zbM] at hr
    | cons y ys =>
    obtain ⟨k, a, b, r', rfl, rfl, hr', rfl⟩ := zfo hr
    obtain ⟨hu, hx'⟩ := zqS (x := .undef) hx
    obtain ⟨hv, hy'⟩ := zqS (x := .undef) hy
    have ih := znd d he n (s + 1) xs ys us vs r' (by simpa using hl) hx' hy' hr'
    simp only [List.range'_succ, Op.eqItems, Nat.mul_one, Sem.run_bind, zqM (P := P) (w := w) he hu, zqM (P := P) (w := w) he hv, Result.andThen_ok, run_equalIn_int w d e k q a b he]
    cases hab : a == b
    · simp
    · simpa using ih
theorem zlg (em : Bool) (d : Nat) {e : TypeId} {q : IntKind} {i : TypeInfo} (he : P.underlying e = some (.int q)) (hi : P.info? e = some i) (hc : P.cellsOf e = 1) {us : List Value} : ∀ (n s : Nat) (xs : List AV), xs.length = n → RVs w L σ xs (us.drop s) → (zbM xs xs).isSome = true →
    (forIn (List.range' s n) PUnit.unit fun i _ => (do
        Instr.checkKey em (d + 1) e (← part e us.toArray (i * (← sizeOf e)))
        pure (ForInStep.yield PUnit.unit) : Sem (ForInStep PUnit))).run P w = .ok PUnit.unit w
  | 0, s, xs, _, _, _ => by simp
  | n + 1, s, xs, hl, hx, hs => by
    cases xs with
    | nil => simp at hl
    | cons x xs =>
    obtain ⟨r, hr⟩ := Option.isSome_iff_exists.1 hs
    obtain ⟨k, a, b, r', rfl, e2, hr', _⟩ := zfo hr
    obtain ⟨hu, hx'⟩ := zqS (x := .undef) hx
    have ih := zlg em d he hi hc (us := us) n (s + 1) xs (by simpa using hl) hx' (by rw [hr']; rfl)
    have h1 : (Instr.checkKey em (d + 1) e (.int k a)).run P w = .ok () w := by simp [Instr.checkKey, run_underlying he]
    simp only [List.range'_succ, List.forIn_cons, Sem.run_bind, run_sizeOf w hi, hc, Nat.mul_one, Result.andThen_ok, zqM (P := P) (w := w) he hu, h1, Sem.run_pure]
    simpa using ih

theorem zkf (em : Bool) (d : Nat) {fields : List Field} {us : List Value} : ∀ (l : List Field) (s : Nat) (xs : List AV), (∀ (k : Nat) f, l[k]? = some f → f.name ≠ "_" ∧ f.offset = s + k ∧ ∃ q, P.underlying f.type = some (.int q)) →
    xs.length = l.length → RVs w L σ xs (us.drop s) → (zbM xs xs).isSome = true →
    (forIn l PUnit.unit fun f _ => (do
        if f.name ≠ "_" then Instr.checkKey em (d + 1) f.type (← part f.type us.toArray f.offset)
        pure (ForInStep.yield PUnit.unit) : Sem (ForInStep PUnit))).run P w = .ok PUnit.unit w
  | [], s, xs, _, hl, _, _ => by simp
  | f :: l, s, xs, hf, hl, hx, he => by
    cases xs with
    | nil => simp at hl
    | cons x xs =>
    obtain ⟨hn, ho, q, hq⟩ := hf 0 f rfl
    obtain ⟨r, hr⟩ := Option.isSome_iff_exists.1 he
    obtain ⟨k, a, b, r', rfl, e2, hr', _⟩ := zfo hr
    have hu : us[s]? = some (.int k a) := by
      have h1 := hx.1; simp at h1
      have h2 : us[s]? = some (us[s]'(by omega)) := List.getElem?_eq_getElem _
      have := hx.2 0 _ (us[s]'(by omega)) rfl (by simp [List.getElem?_drop, h2])
      rw [h2, this.int_inv]
    have hag : zny P f.type = some false := by simp [zny, hq]
    have p1 : (part f.type us.toArray f.offset).run P w = .ok (.int k a) w := by simp [part, zea hag, ho, hu]
    have ih := zkf em d (fields := fields) (us := us) l (s + 1) xs (fun j g hj => by have := hf (j + 1) g hj; exact ⟨this.1, by rw [this.2.1]; omega, this.2.2⟩) (by simpa using hl)
      ⟨by have := hx.1; simp at this ⊢; omega, fun j c u hc hu => hx.2 (j + 1) c u hc (by rw [List.getElem?_drop] at hu ⊢; rw [← hu]; congr 1; omega)⟩ (by rw [hr']; rfl)
    have hc : (Instr.checkKey em (d + 1) f.type (.int k a)).run P w = .ok () w := by simp [Instr.checkKey, run_underlying hq]
    rw [List.forIn_cons]
    simp only [hn, ne_eq, not_false_eq_true, if_true, Sem.run_bind, p1, hc, Result.andThen_ok, Sem.run_pure]
    simpa [hn] using ih

theorem zjg {t : TypeId} {kk : KK} (h : kkOf P t = some kk) {k : AV} {v : Value} (hk : zeh kk k = true) (hv : RV w L σ k v) (em : Bool) : (Instr.checkKey em 10000 t v).run P w = .ok () w := by
  rcases zom h with ⟨rfl, q, hq⟩ | ⟨rfl, hq⟩ | ⟨n, rfl, hn⟩
  · cases k <;> simp only [zeh, Bool.false_eq_true] at hk
    rename_i x
    cases x <;> simp only [zeh, Bool.false_eq_true] at hk
    rw [hv.int_inv]
    change (Instr.checkKey em (9999 + 1) t _).run P w = _
    unfold Instr.checkKey
    simp [run_underlying hq]
  · cases k <;> simp only [zeh, Bool.false_eq_true] at hk
    rename_i x
    cases x <;> simp only [zeh, Bool.false_eq_true] at hk
    rw [hv.str_inv]
    change (Instr.checkKey em (9999 + 1) t _).run P w = _
    unfold Instr.checkKey
    simp [run_underlying hq]
  · cases k <;> simp only [zeh, Bool.false_eq_true, Bool.and_eq_true, beq_iff_eq] at hk
    rename_i xs
    obtain ⟨us, rfl, r1⟩ := hv.agg_inv
    rcases hn with hn | hn
    rotate_left
    · obtain ⟨e, q, i, hu1, he, hc, hi⟩ := zoP hn
      have := zlg em 9998 he hi hc (us := us) n 0 xs hk.1 (by simpa using r1) hk.2
      change (Instr.checkKey em (9999 + 1) t _).run P w = _
      rw [Instr.checkKey]
      simp only [Sem.run_bind, run_underlying hu1, Result.andThen_ok]
      simp only [Std.Legacy.Range.forIn_eq_forIn_range', Std.Legacy.Range.size, Nat.sub_zero, Nat.add_one_sub_one, Nat.div_one]
      simp only [Nat.reduceAdd] at this
      rw [this]; rfl
    obtain ⟨fs, inf, hu1, hu2, hu3, hu4, hu5, hu6, hu7⟩ := zjO hn
    have := zkf em 9998 (fields := fs.toList) fs.toList 0 xs (us := us) (fun k f hk => by have := hu7 k f (by simpa using hk); exact ⟨this.1, by rw [this.2.1]; omega, this.2.2⟩) (by rw [hk.1, ← hu4]; simp) (by simpa using r1) hk.2
    change (Instr.checkKey em (9999 + 1) t _).run P w = _
    unfold Instr.checkKey
    simp only [Sem.run_bind, run_underlying hu1, Result.andThen_ok]
    simp at this ⊢
    rw [this]; rfl

theorem keyEq_val {kk : KK} {x y : AV} {r : Bool} {u v : Value} (h : zfn kk x y = some r) (hu : RV w L σ x u) (hv : RV w L σ y v) (hr : r = true) : u = v := by
  subst hr
  cases kk with
  | int =>
    cases x <;> try (simp [zfn] at h; done)
    cases y <;> try (simp [zfn] at h; done)
    rename_i x y
    cases x <;> cases y <;> simp [zfn] at h
    obtain ⟨rfl, rfl⟩ := h
    rw [hu.int_inv, hv.int_inv]
  | str =>
    cases x <;> try (simp [zfn] at h; done)
    cases y <;> try (simp [zfn] at h; done)
    rename_i x y
    cases x <;> cases y <;> simp [zfn] at h
    subst h
    rw [hu.str_inv, hv.str_inv]
  | ints n =>
    cases x <;> try (simp [zfn] at h; done)
    cases y <;> try (simp [zfn] at h; done)
    rename_i xs ys
    simp only [zfn, Option.ite_none_right_eq_some] at h
    obtain ⟨us, rfl, r1⟩ := hu.agg_inv
    obtain ⟨vs, rfl, r2⟩ := hv.agg_inv
    obtain ⟨hln, h⟩ := h
    clear hln
    have : us = vs := by
      clear hu hv
      induction xs generalizing ys us vs with
      | nil =>
        cases ys with
        | nil => have h1 := r1.1; have h2 := r2.1; cases us <;> cases vs <;> simp at h1 h2 ⊢
        | cons y ys => simp [zbM] at h
      | cons x xs ih =>
        cases ys with
        | nil => simp [zbM] at h
        | cons y ys =>
        obtain ⟨k, a, b, r', rfl, rfl, hr', e⟩ := zfo h
        cases us with
        | nil => have := r1.1; simp at this
        | cons u us =>
        cases vs with
        | nil => have := r2.1; simp at this
        | cons v vs =>
        have e1 := (r1.2 0 _ u rfl rfl).int_inv
        have e2 := (r2.2 0 _ v rfl rfl).int_inv
        have e' : a = b ∧ r' = true := by
          have := e.symm
          simpa using this
        rw [e'.2] at hr'
        rw [e1, e2, e'.1, ih ys us ⟨by have := r1.1; simpa using this, fun i c v hc hv => r1.2 (i + 1) c v hc hv⟩ vs ⟨by have := r2.1; simpa using this, fun i c v hc hv => r2.2 (i + 1) c v hc hv⟩ hr']
    rw [this]

theorem zmG (n : Nat) : ∀ (xs : List AV) (us : List Value), RVs w L σ xs us → (zbM xs xs).isSome = true → ((us.zip us).all fun (x, y) => Instr.sameBits n x y) = true
  | [], us, h, _ => by have := h.1; cases us <;> simp_all
  | x :: xs, us, h, he => by
    obtain ⟨r, hr⟩ := Option.isSome_iff_exists.1 he
    obtain ⟨k, a, b, r', rfl, e2, hr', _⟩ := zfo hr
    cases us with
    | nil => have := h.1; simp at this
    | cons u us =>
    have e1 := (h.2 0 _ u rfl rfl).int_inv
    subst e1
    have ih := zmG n xs us ⟨by have := h.1; simpa using this, fun i c v hc hv => h.2 (i + 1) c v hc hv⟩ (by rw [hr']; rfl)
    simp only [List.zip_cons_cons, List.all_cons, ih, Bool.and_true]
    cases n <;> simp [Instr.sameBits]

theorem run_stays {kk : KK} {x : AV} {u : Value} (hx : zeh kk x = true) (hu : RV w L σ x u) : (Instr.keyThatStays u u).run P w = .ok u w := by
  have : Instr.sameBits 10000 u u = true := by
    cases kk with
    | int =>
      cases x <;> simp only [zeh, Bool.false_eq_true] at hx
      rename_i x
      cases x <;> simp only [zeh, Bool.false_eq_true] at hx
      rw [hu.int_inv]; simp [Instr.sameBits]
    | str =>
      cases x <;> simp only [zeh, Bool.false_eq_true] at hx
      rename_i x
      cases x <;> simp only [zeh, Bool.false_eq_true] at hx
      rw [hu.str_inv]
      show (_ == _) = true
      simp [bytes_beq]
    | ints n =>
      cases x <;> simp only [zeh, Bool.false_eq_true, Bool.and_eq_true] at hx
      obtain ⟨us, rfl, r1⟩ := hu.agg_inv
      have := zmG 9999 _ us r1 hx.2
      simp only [Instr.sameBits, beq_self_eq_true, Bool.true_and]
      simpa using this
  simp [Instr.keyThatStays, this]

theorem zgc {t : TypeId} {kk : KK} (h : kkOf P t = some kk) {k : AV} {v : Value} (hv : RV w L σ k v) : ∀ (es : List (AV × AV)) (ms : List MapEntry) (i : Nat) {r : Option (Nat × AV)}, ms.length = es.length →
    (∀ (j : Nat) e m, es[j]? = some e → ms[j]? = some m → RE w L σ e m) → zjq kk k es i = some r →
    match r with
    | none => (∃ d, P.underlying t = some d ∧ Instr.findNow d v ms i = some none) ∨ wideB P t = true ∧ (Instr.findAsking t v ms i).run P w = .ok none w
    | some (p, x) => ∃ j e m, p = i + j ∧ es[j]? = some e ∧ ms[j]? = some m ∧ e.2 = x ∧ m.key = v ∧
        ((∃ d, P.underlying t = some d ∧ Instr.findNow d v ms i = some (some (p, m.val))) ∨ wideB P t = true ∧ (Instr.findAsking t v ms i).run P w = .ok (some (p, m.val)) w)
  | [], ms, i, r, hl, _, hr => by
    have : ms = [] := by simpa using hl
    subst this
    simp only [zjq, Option.some.injEq] at hr
    subst hr
    rcases zom h with ⟨rfl, q, hq⟩ | ⟨rfl, hq⟩ | ⟨n, rfl, hn⟩
    · exact .inl ⟨_, hq, rfl⟩
    · exact .inl ⟨_, hq, rfl⟩
    · exact .inr ⟨wide_of hn, by simp [Instr.findAsking]⟩
  | e :: es, ms, i, r, hl, hre, hr => by
    cases ms with
    | nil => simp at hl
    | cons m ms =>
    have hk := hre 0 e m rfl rfl
    simp only [zjq] at hr
    -- one entry
    have one : ∀ {b}, zfn kk k e.1 = some b → (∃ d, P.underlying t = some d ∧ Instr.sameNow d v m.key = some b) ∨ wideB P t = true ∧ (Op.equal t v m.key).run P w = .ok b w := fun {b} hb => by
      rcases zom h with ⟨rfl, q, hq⟩ | ⟨rfl, hq⟩ | ⟨n, rfl, hn⟩
      · left
        refine ⟨_, hq, ?_⟩
        cases k <;> try (simp [zfn] at hb; done)
        generalize hE : e.1 = y at hb hk
        cases y <;> try (simp [zfn] at hb; done)
        rename_i x y
        cases x <;> cases y <;> simp [zfn] at hb
        obtain ⟨e1, rfl⟩ := hb
        have h1 := hk.1
        rw [hE] at h1
        rw [hv.int_inv, h1.int_inv, e1]
        simp [Instr.sameNow]
      · left
        refine ⟨_, hq, ?_⟩
        cases k <;> try (simp [zfn] at hb; done)
        generalize hE : e.1 = y at hb hk
        cases y <;> try (simp [zfn] at hb; done)
        rename_i x y
        cases x <;> cases y <;> simp [zfn] at hb
        have h1 := hk.1
        rw [hE] at h1
        rw [hv.str_inv, h1.str_inv]
        rename_i s t
        simp only [Instr.sameNow, ← hb, Option.some.injEq]
        rw [Bool.eq_iff_iff, bytes_beq]
        simp
      · right
        refine ⟨wide_of hn, ?_⟩
        cases k <;> try (simp [zfn] at hb; done)
        generalize hE : e.1 = y at hb hk
        cases y <;> try (simp [zfn] at hb; done)
        rename_i xs ys
        simp only [zfn, Option.ite_none_right_eq_some] at hb
        have h1 := hk.1
        rw [hE] at h1
        obtain ⟨us, e1, r1⟩ := hv.agg_inv
        obtain ⟨vs, e2, r2⟩ := h1.agg_inv
        rcases hn with hn | hn
        rotate_left
        · obtain ⟨e', q, i, hu1, he, hc, hi⟩ := zoP hn
          rw [e1, e2]
          show (Op.equalIn (9999 + 1) t (.agg us.toArray) (.agg vs.toArray)).run P w = .ok b w
          rw [run_equalIn_array w 9999 us.toArray vs.toArray hu1 hi, hc, List.range_eq_range']
          exact znd 9998 he n 0 xs ys us vs b hb.1 (by simpa using r1) (by simpa using r2) hb.2
        obtain ⟨fs, inf, hu1, hu2, hu3, hu4, hu5, hu6, hu7⟩ := zjO hn
        have hfo : P.fieldsOf t = fs := by simp [Program.fieldsOf, hu1]
        rw [e1, e2]
        show (Op.equalIn 10000 t (.agg us.toArray) (.agg vs.toArray)).run P w = .ok b w
        rw [run_equalIn_agg w 9999 t _ _ (by rw [hfo]; exact hu1) hu2, hfo]
        exact zir 9998 fs.toList 0 xs ys us vs b (fun k f hk => by have := hu7 k f (by simpa using hk); exact ⟨this.1, by rw [this.2.1]; omega, this.2.2⟩) (by rw [hb.1, ← hu4]; simp) (by simpa using r1) (by simpa using r2) hb.2
    split at hr
    · rename_i hb
      cases hr
      refine ⟨0, e, m, rfl, rfl, rfl, rfl, (keyEq_val hb hv hk.1 rfl).symm, ?_⟩
      rcases one hb with ⟨d, hd, h1⟩ | ⟨hs, h1⟩
      · exact .inl ⟨d, hd, by simp [Instr.findNow, h1]⟩
      · exact .inr ⟨hs, by simp [Instr.findAsking, h1]⟩
    · rename_i hb
      have ih := zgc h hv es ms (i + 1) (r := r) (by simpa using hl) (fun j e m he hm => hre (j + 1) e m he hm) hr
      have h0 := one hb
      cases r with
      | none =>
        dsimp only at ih ⊢
        rcases h0 with ⟨d, hd, h1⟩ | ⟨hs, h1⟩
        · rcases ih with ⟨d', hd', h2⟩ | ⟨hs, h2⟩
          · rw [hd] at hd'; cases hd'
            exact .inl ⟨d, hd, by simp [Instr.findNow, h1, h2]⟩
          · exfalso
            rcases zjd hs with ⟨fs, hu1⟩ | ⟨n, e', hu1⟩ <;> (rw [hd] at hu1; cases hu1; simp [Instr.sameNow] at h1)
        · rcases ih with ⟨d', hd', h2⟩ | ⟨hs', h2⟩
          · right
            refine ⟨hs, ?_⟩
            rcases zjd hs with ⟨fs, hu1⟩ | ⟨n, e', hu1⟩ <;> (rw [hd'] at hu1; cases hu1; cases ms with
              | nil => simp [Instr.findAsking, h1]
              | cons m' ms => simp [Instr.findNow, Instr.sameNow] at h2)
          · exact .inr ⟨hs, by simp [Instr.findAsking, h1, h2]⟩
      | some px =>
        obtain ⟨p, x⟩ := px
        dsimp only at ih ⊢
        obtain ⟨j, e', m', g1, g2, g3, g4, g5, g6⟩ := ih
        refine ⟨j + 1, e', m', by omega, g2, g3, g4, g5, ?_⟩
        rcases h0 with ⟨d, hd, h1⟩ | ⟨hs, h1⟩
        · rcases g6 with ⟨d', hd', h2⟩ | ⟨hs, h2⟩
          · rw [hd] at hd'; cases hd'
            exact .inl ⟨d, hd, by simp [Instr.findNow, h1, h2]⟩
          · exfalso
            rcases zjd hs with ⟨fs, hu1⟩ | ⟨n, e', hu1⟩ <;> (rw [hd] at hu1; cases hu1; simp [Instr.sameNow] at h1)
        · rcases g6 with ⟨d', hd', h2⟩ | ⟨hs', h2⟩
          · exfalso
            rcases zjd hs with ⟨fs, hu1⟩ | ⟨n, e', hu1⟩ <;> (rw [hd'] at hu1; cases hu1; cases ms with
              | nil => simp [Instr.findNow] at h2
              | cons m' ms => simp [Instr.findNow, Instr.sameNow] at h2)
          · exact .inr ⟨hs, by simp [Instr.findAsking, h1, h2]⟩
    · cases hr

theorem run_findKey' {t : TypeId} {v : Value} {ms : List MapEntry} {r : Option (Nat × Value)} (h : (∃ d, P.underlying t = some d ∧ Instr.findNow d v ms 0 = some r) ∨ wideB P t = true ∧ (Instr.findAsking t v ms 0).run P w = .ok r w) :
    (Instr.findKey t v ms).run P w = .ok r w := by
  rcases h with ⟨d, hd, h⟩ | ⟨hs, h⟩
  · exact run_findKey hd h
  · rcases zjd hs with ⟨fs, hu1⟩ | ⟨n, e', hu1⟩ <;> rw [run_findKey_eq w (by rw [hu1]), h]

theorem map_block (S : Sim L σ w) {id : Nat} {es : List (AV × AV)} (h : σ[id]? = some (.map es)) :
    ∃ ms clock, w.heap[(L id).a.block]? = some (.map ms clock) ∧ ms.toList.length = es.length ∧ ∀ (j : Nat) e m, es[j]? = some e → ms.toList[j]? = some m → RE w L σ e m := by
  obtain ⟨ms, clock, h1, h2, h3, _⟩ := S.obj id _ h
  exact ⟨ms, clock, h1, by simpa using h2, fun j e m he hm => h3 j e m he (by simpa using hm)⟩
theorem map_block' (S : Sim L σ w) {id : Nat} {es : List (AV × AV)} (h : σ[id]? = some (.map es)) :
    ∃ ms clock, w.heap[(L id).a.block]? = some (.map ms clock) ∧ ms.toList.length = es.length ∧ (∀ (j : Nat) e m, es[j]? = some e → ms.toList[j]? = some m → RE w L σ e m) ∧ zhT ms clock := by
  obtain ⟨ms, clock, h1, h2, h3, h4⟩ := S.obj id _ h
  exact ⟨ms, clock, h1, by simpa using h2, fun j e m he hm => h3 j e m he (by simpa using hm), h4⟩
theorem zqz {ms : Array MapEntry} {clock p : Nat} {f : MapEntry → MapEntry} (hf : ∀ e, (f e).born = e.born) (h : zhT ms clock) : zhT (ms.modify p f) clock := by
  have e : (ms.modify p f).toList.map (·.born) = ms.toList.map (·.born) := by
    apply List.ext_getElem?
    intro i
    simp only [List.getElem?_map, Array.getElem?_toList, Array.getElem?_modify]
    split
    · cases ms[i]? <;> simp [hf]
    · rfl
  refine ⟨by rw [e]; exact h.1, fun x hx => ?_⟩
  have : x.born ∈ (ms.modify p f).toList.map (·.born) := List.mem_map.2 ⟨x, hx, rfl⟩
  rw [e] at this
  obtain ⟨y, hy, e2⟩ := List.mem_map.1 this
  rw [← e2]; exact h.2 y hy
theorem stamps_push {ms : Array MapEntry} {clock : Nat} {k v : Value} (h : zhT ms clock) : zhT (ms.push { key := k, val := v, born := clock }) (clock + 1) := by
  refine ⟨?_, fun x hx => ?_⟩
  · rw [Array.toList_push, List.map_append, List.nodup_append]
    refine ⟨h.1, by simp, fun a ha b hb e => ?_⟩
    obtain ⟨y, hy, rfl⟩ := List.mem_map.1 ha
    simp only [List.map_cons, List.map_nil, List.mem_singleton] at hb
    have := h.2 y hy
    omega
  · rw [Array.toList_push] at hx
    rcases List.mem_append.1 hx with hx | hx
    · have := h.2 x hx; omega
    · simp only [List.mem_singleton] at hx; subst hx; show clock < clock + 1; omega
theorem zmF {ms : Array MapEntry} {clock p : Nat} (h : zhT ms clock) : zhT (ms.eraseIdxIfInBounds p) clock := by
  have e : (ms.eraseIdxIfInBounds p).toList = ms.toList.eraseIdx p := by
    rw [Array.eraseIdxIfInBounds]
    split
    · simp
    · rename_i hp
      rw [List.eraseIdx_of_length_le (by simpa using hp)]
  refine ⟨?_, fun x hx => ?_⟩
  · rw [e]
    exact List.Sublist.nodup ((List.eraseIdx_sublist _ _).map _) h.1
  · rw [e] at hx
    exact h.2 x (List.mem_of_mem_eraseIdx hx)

theorem snd_mkmap (S : Sim L σ w) {t : TypeId} {kt et : TypeId} (ht : P.underlying t = some (.map kt et)) (ho : o.op = .makeMap t none) (h : zar P .mkmap fr σ K) : zai P o a L σ w K := by
  have hf : ∀ b c, zdB { a := ⟨w.heap.size, 0, none⟩ } (.map []) b c → b = w.heap.size := fun b c h => h
  have st := zcO L σ (.map #[] 0) { a := ⟨w.heap.size, 0, none⟩ } (.map []) hf
  have S' := zdR S (.map #[] 0) { a := ⟨w.heap.size, 0, none⟩ } (.map []) hf ⟨#[], 0, by
    show (w.heap.push _)[w.heap.size]? = _
    simp, rfl, by simp, by simp [zhT]⟩
  refine ⟨.map σ.length, .map (some w.heap.size), _, _, _, .inl ?_, st, S', ?_, h⟩
  · simp [execOp, ho, Instr.makeMap, newObj, Sem.run]
  · have := RV.map (w := w.alloc (.map #[] 0)) (L := zgr L σ.length { a := ⟨w.heap.size, 0, none⟩ }) (σ := σ ++ [.map []]) σ.length ⟨.map [], by simp, by simp [zc.kind]⟩
    rw [zF] at this
    exact this

theorem snd_mget (S : Sim L σ w) (F : FR w L σ fr a.tmps) {t kt et : TypeId} {m k : Operand} {ok : Bool} {kk : KK} {inf : TypeInfo} {z : Value} {za : AV} {m' k' : Opd} (ht : P.underlying t = some (.map kt et)) (hkk : kkOf P kt = some kk)
    (hi : P.info? et = some inf) (hz : inf.zero = some z) (hza : litA z = some za) (hm : opd m = some m') (hk : opd k = some k') (ho : o.op = .lookup t m k ok) (h : zar P (.mget kk ok za m' k') fr σ K) : zai P o a L σ w K := by
  simp only [zar, zbe] at h
  have hv := zA F hm
  have hu := zA F hk
  have hzero : (zeroValue et).run P w = .ok z w := by simp [zeroValue, typeInfo, hi, hz]
  split at h
  · rename_i es hes
    obtain ⟨hfit, h⟩ := h
    have hc := zjg hkk hfit hu
    -- the entries in the model
    obtain ⟨ms, hget, hl, hre⟩ : ∃ ms : Array MapEntry, (a.eval m = .map none ∧ ms = #[] ∨ ∃ r clock, a.eval m = .map (some r) ∧ w.heap[r]? = some (.map ms clock)) ∧ ms.toList.length = es.length ∧ ∀ (j : Nat) e x, es[j]? = some e → ms.toList[j]? = some x → RE w L σ e x := by
      generalize ev fr m' = M at hes hv
      cases M <;> simp only [zeN] at hes <;> try (cases hes; done)
      · rename_i x
        cases x <;> simp only [zeN] at hes <;> try (cases hes; done)
        cases hes
        exact ⟨#[], .inl ⟨hv.nilmap_inv, rfl⟩, rfl, by simp⟩
      · rename_i id
        split at hes
        · rename_i es' hes'
          cases hes
          obtain ⟨ms, clock, h1, h2, h3⟩ := map_block S hes'
          exact ⟨ms, .inr ⟨_, clock, hv.map_inv.1, h1⟩, h2, h3⟩
        · cases hes
    have fin : ∀ {r v}, (Instr.lookup t (a.eval m) (a.eval k) ok).run P w = .ok v w → RV w L σ r v → K r σ → zai P o a L σ w K := fun {r v} h1 h2 h3 =>
      .same S (r := r) (v := v) (by simp [execOp, ho, h1]) h2 h3
    have fin2 : ∀ {x v} (is : Bool), RV w L σ x v → RV w L σ (mgetR ok x is) (if ok then .tuple #[v, .bool is] else v) := fun {x v} is hx => by
      cases ok
      · exact hx
      · exact .tup [x, .d (.bool is)] [v, .bool is] rfl (fun i c u hc hu => by
          match i with
          | 0 => simp at hc hu; subst hc hu; exact hx
          | 1 => simp at hc hu; subst hc hu; exact .d _ _ (.bool _)
          | n + 2 => simp at hc)
    split at h
    · rename_i p v hf
      have := zgc hkk hu es ms.toList 0 hl hre hf
      obtain ⟨j, e, x, e1, e2, e3, e4, e5, e6⟩ := this
      have hrun := run_findKey' e6
      refine fin (v := if ok then .tuple #[x.val, .bool true] else x.val) ?_ (fin2 true (by rw [← e4]; exact (hre j e x e2 e3).2)) h
      rcases hget with ⟨hmn, rfl⟩ | ⟨rr, clock, hmn, hh⟩
      · simp only [Instr.lookup, Sem.run_bind, run_underlying ht, Result.andThen_ok, hmn, hc, hrun, Sem.run_pure]
      · simp only [Instr.lookup, Sem.run_bind, run_underlying ht, Result.andThen_ok, hmn, zna hh, hc, hrun, Sem.run_pure]
    · rename_i hf
      have := zgc hkk hu es ms.toList 0 hl hre hf
      have hrun := run_findKey' this
      refine fin (v := if ok then .tuple #[z, .bool false] else z) ?_ (fin2 false (zpU hza)) h
      rcases hget with ⟨hmn, rfl⟩ | ⟨rr, clock, hmn, hh⟩
      · simp only [Instr.lookup, Sem.run_bind, run_underlying ht, Result.andThen_ok, hmn, hc, hrun, hzero, Sem.run_pure]
      · simp only [Instr.lookup, Sem.run_bind, run_underlying ht, Result.andThen_ok, hmn, zna hh, hc, hrun, hzero, Sem.run_pure]
    · exact h.elim
  · exact h.elim

theorem snd_mset (S : Sim L σ w) (F : FR w L σ fr a.tmps) {t kt et : TypeId} {m k x : Operand} {kk : KK} {m' k' x' : Opd} (ht : P.underlying t = some (.map kt et)) (hkk : kkOf P kt = some kk)
    (hm : opd m = some m') (hk : opd k = some k') (hx : opd x = some x') (ho : o.op = .mapUpdate t m k x ∨ o.op = .insert t m k x) (h : zar P (.mset kk m' k' x') fr σ K) : zai P o a L σ w K := by
  simp only [zar, zbl] at h
  have hv := zA F hm
  have hu := zA F hk
  have hz := zA F hx
  split at h
  · rename_i id hid
    rw [hid] at hv
    split at h
    · rename_i es hes
      obtain ⟨hfit, h⟩ := h
      have hc := zjg hkk hfit hu
      obtain ⟨ms, clock, h1, h2, h3, h9⟩ := map_block' S hes
      have hlt := (Array.getElem?_eq_some_iff.1 h1).1
      have fin : ∀ {es' : List (AV × AV)} {ms' : Array MapEntry} {clock' : Nat}, (Instr.mapUpdate t (a.eval m) (a.eval k) (a.eval x)).run P w = .ok () { w with heap := w.heap.setIfInBounds (L id).a.block (.map ms' clock') } →
          ms'.size = es'.length → (∀ (j : Nat) e y, es'[j]? = some e → ms'[j]? = some y → RE w L σ e y) → zhT ms' clock' → K (.tup []) (σ.set id (.map es')) → zai P o a L σ w K := fun {es' ms' clock'} g1 g2 g3 g5 g4 => by
        obtain ⟨st, S'⟩ := zii S hes (x' := .map es') rfl (by simp [zc.kind]) (by simp [zc.kind]) (.map ms' clock') (fun w' e st => by
          subst e
          refine ⟨ms', clock', ?_, g2, fun j e y hj hy => (g3 j e y hj hy).mono st, g5⟩
          show (w.heap.setIfInBounds _ _)[_]? = _
          simp [hlt])
        refine ⟨.tup [], .tuple #[], L, _, _, .inr ⟨?_, rfl⟩, st, S', .tup [] [] rfl (by simp), g4⟩
        rcases ho with ho | ho <;> simp [execOp, ho, g1]
      have hme := hv.map_inv.1
      split at h
      · rename_i p v hf
        obtain ⟨j, e, y, e1, e2, e3, e4, e5, e6⟩ := zgc hkk hu es ms.toList 0 h2 h3 hf
        have hrun := run_findKey' e6
        have hpj : p = j := by omega
        subst hpj
        have hky : ms[p]? = some y := by simpa using e3
        refine fin (es' := es.set p (ev fr k', ev fr x')) (ms' := ms.modify p fun e => { e with key := a.eval k, val := a.eval x }) (clock' := clock) ?_ (by simpa using h2) (fun j' e' y' hj hy => ?_) (zqz (fun _ => rfl) h9) h
        · have hst := run_stays (P := P) hfit hu
          simp only [Instr.mapUpdate, Sem.run_bind, run_underlying ht, Result.andThen_ok, hme, zna h1, hc, hrun, hky, Option.map_some, Option.getD_some, e5, hst, zpD _ h1]
        · rw [Array.getElem?_modify] at hy
          rw [List.getElem?_set] at hj
          split at hj
          · rename_i hpe
            subst hpe
            split at hj
            · cases hj
              rw [if_pos rfl, hky] at hy
              cases hy
              exact ⟨hu, hz⟩
            · cases hj
          · rename_i hpe
            rw [if_neg hpe] at hy
            exact h3 j' e' y' hj (by simpa using hy)
      · rename_i hf
        have hrun := run_findKey' (zgc hkk hu es ms.toList 0 h2 h3 hf)
        refine fin (es' := es ++ [(ev fr k', ev fr x')]) (ms' := ms.push { key := a.eval k, val := a.eval x, born := clock }) (clock' := clock + 1) ?_ (by simpa using h2) (fun j' e' y' hj hy => ?_) (stamps_push h9) h
        · simp only [Instr.mapUpdate, Sem.run_bind, run_underlying ht, Result.andThen_ok, hme, zna h1, hc, hrun, zpD _ h1]
        · have hms : ms.size = es.length := by simpa using h2
          rw [Array.getElem?_push] at hy
          split at hy
          · rename_i hpe
            cases hy
            rw [hpe, hms, List.getElem?_concat_length] at hj
            cases hj
            exact ⟨hu, hz⟩
          · rename_i hpe
            have hlt2 : j' < ms.size := (Array.getElem?_eq_some_iff.1 hy).1
            rw [List.getElem?_append_left (by omega)] at hj
            exact h3 j' e' y' hj (by simpa using hy)
      · exact h.elim
    · exact h.elim
  · exact h.elim

theorem map_eraseIdx' {α β : Type} (f : α → β) (l : List α) (i : Nat) : (l.map f).eraseIdx i = (l.eraseIdx i).map f := by
  apply List.ext_getElem?
  intro j
  simp only [List.getElem?_eraseIdx, List.getElem?_map]
  split <;> rfl
theorem snd_mdel (S : Sim L σ w) (F : FR w L σ fr a.tmps) {c : Call} {t kt et : TypeId} {m k : Operand} {kk : KK} {m' k' : Opd} (ho : o.op = .call c) (hcal : c.callee = .builtin .delete) (hat : c.argTypes[0]? = some t) (hargs : c.args.toList = [m, k])
    (ht : P.underlying t = some (.map kt et)) (hkk : kkOf P kt = some kk)
    (hm : opd m = some m') (hk : opd k = some k') (h : zar P (.mdel kk m' k') fr σ K) : zai P o a L σ w K := by
  have hargs' : c.args = #[m, k] := by apply Array.ext'; simpa using hargs
  simp only [zar, zbG] at h
  have hv := zA F hm
  have hu := zA F hk
  have run : ∀ {w'}, (Builtin.delete_ c.argTypes o.type #[a.eval m, a.eval k]).run P w = .ok (.tuple #[]) w' → (execOp a.eval o).run P w = .ok (.value (.tuple #[])) w' := fun {w'} h1 => by
    simp [execOp, ho, resolve, hcal, hargs', invoke, builtin, h1]
  split at h
  · rename_i id hid
    rw [hid] at hv
    split at h
    · rename_i es hes
      obtain ⟨hfit, h⟩ := h
      have hc := zjg hkk hfit hu
      obtain ⟨ms, clock, h1, h2, h3, h9⟩ := map_block' S hes
      have hlt := (Array.getElem?_eq_some_iff.1 h1).1
      have fin : ∀ {es' : List (AV × AV)} {ms' : Array MapEntry} {clock' : Nat}, (Builtin.delete_ c.argTypes o.type #[a.eval m, a.eval k]).run P w = .ok (.tuple #[]) { w with heap := w.heap.setIfInBounds (L id).a.block (.map ms' clock') } →
          ms'.size = es'.length → (∀ (j : Nat) e y, es'[j]? = some e → ms'[j]? = some y → RE w L σ e y) → zhT ms' clock' → K (.tup []) (σ.set id (.map es')) → zai P o a L σ w K := fun {es' ms' clock'} g1 g2 g3 g5 g4 => by
        obtain ⟨st, S'⟩ := zii S hes (x' := .map es') rfl (by simp [zc.kind]) (by simp [zc.kind]) (.map ms' clock') (fun w' e st => by
          subst e
          refine ⟨ms', clock', ?_, g2, fun j e y hj hy => (g3 j e y hj hy).mono st, g5⟩
          show (w.heap.setIfInBounds _ _)[_]? = _
          simp [hlt])
        exact ⟨.tup [], .tuple #[], L, _, _, .inl (run g1), st, S', .tup [] [] rfl (by simp), g4⟩
      have hme := hv.map_inv.1
      split at h
      · rename_i p v hf
        obtain ⟨j, e, y, e1, e2, e3, e4, e5, e6⟩ := zgc hkk hu es ms.toList 0 h2 h3 hf
        have hrun := run_findKey' e6
        have hpj : p = j := by omega
        subst hpj
        have hms : ms.size = es.length := by simpa using h2
        have hplt := ze e2
        refine fin (es' := es.eraseIdx p) (ms' := ms.eraseIdxIfInBounds p) (clock' := clock) ?_ ?_ (fun j' e' y' hj hy => ?_) (zmF h9) h
        · simp only [Builtin.delete_, List.getElem?_toArray, List.getElem?_cons_zero, List.getElem?_cons_succ, hat, Sem.run_bind, run_underlying ht, Result.andThen_ok, hme, zna h1, hc, hrun, zpD _ h1, Sem.run_pure]
        · rw [Array.eraseIdxIfInBounds, dif_pos (by omega)]
          simp [List.length_eraseIdx, hplt, hms]
        · rw [Array.eraseIdxIfInBounds, dif_pos (by omega), ← Array.getElem?_toList, Array.toList_eraseIdx] at hy
          rw [List.getElem?_eraseIdx] at hj hy
          split at hj
          · rename_i hlt'
            rw [if_pos hlt'] at hy
            exact h3 j' e' y' hj hy
          · rename_i hlt'
            rw [if_neg hlt'] at hy
            exact h3 (j' + 1) e' y' hj hy
      · rename_i hf
        have hrun := run_findKey' (zgc hkk hu es ms.toList 0 h2 h3 hf)
        have hset : σ.set id (.map es) = σ := by
          apply List.ext_getElem?
          intro j
          rw [List.getElem?_set]
          split
          · rename_i e; subst e; rw [hes, if_pos (ze hes)]
          · rfl
        refine fin (es' := es) (ms' := ms) (clock' := clock) ?_ (by simpa using h2) (fun j' e' y' hj hy => h3 j' e' y' hj (by simpa using hy)) h9 (by rw [hset]; exact h)
        simp only [Builtin.delete_, List.getElem?_toArray, List.getElem?_cons_zero, List.getElem?_cons_succ, hat, Sem.run_bind, run_underlying ht, Result.andThen_ok, hme, zna h1, hc, hrun, zpD _ h1, Sem.run_pure]
      · exact h.elim
    · rename_i c0 bs0 es hes
      obtain ⟨hfit, h⟩ := h
      have hc := zjg hkk hfit hu
      obtain ⟨ms, h1, h2', h3', h9, h5b⟩ := S.obj id _ hes
      have h2 : ms.toList.length = es.length := by simpa using h2'
      have h3 : ∀ (i : Nat) (e : AV × AV) (m : MapEntry), es[i]? = some e → ms.toList[i]? = some m → RE w L σ e m := fun i e m he hm => h3' i e m he (by simpa using hm)
      have hlt := (Array.getElem?_eq_some_iff.1 h1).1
      have fin : ∀ {es' : List (AV × AV)} {ms' : Array MapEntry}, (Builtin.delete_ c.argTypes o.type #[a.eval m, a.eval k]).run P w = .ok (.tuple #[]) { w with heap := w.heap.setIfInBounds (L id).a.block (.map ms' c0) } →
          ms'.size = es'.length → (∀ (j : Nat) e y, es'[j]? = some e → ms'[j]? = some y → RE w L σ e y) → zhT ms' c0 → K (.tup []) (σ.set id (.mapr c0 (ms'.toList.map (·.born)) es')) → zai P o a L σ w K := fun {es' ms'} g1 g2 g3 g5 g4 => by
        obtain ⟨st, S'⟩ := zii S hes (x' := .mapr c0 (ms'.toList.map (·.born)) es') rfl (by simp [zc.kind]) (by simp [zc.kind]) (.map ms' c0) (fun w' e st => by
          subst e
          refine ⟨ms', ?_, g2, fun j e y hj hy => (g3 j e y hj hy).mono st, g5, rfl⟩
          show (w.heap.setIfInBounds _ _)[_]? = _
          simp [hlt])
        exact ⟨.tup [], .tuple #[], L, _, _, .inl (run g1), st, S', .tup [] [] rfl (by simp), g4⟩
      have hme := hv.map_inv.1
      split at h
      · rename_i p v hf
        obtain ⟨j, e, y, e1, e2, e3, e4, e5, e6⟩ := zgc hkk hu es ms.toList 0 h2 h3 hf
        have hrun := run_findKey' e6
        have hpj : p = j := by omega
        subst hpj
        have hms : ms.size = es.length := by simpa using h2
        have hplt := ze e2
        refine fin (es' := es.eraseIdx p) (ms' := ms.eraseIdxIfInBounds p) ?_ ?_ (fun j' e' y' hj hy => ?_) (zmF h9) (by rw [Array.eraseIdxIfInBounds, dif_pos (by omega), Array.toList_eraseIdx, ← map_eraseIdx', h5b]; exact h)
        · simp only [Builtin.delete_, List.getElem?_toArray, List.getElem?_cons_zero, List.getElem?_cons_succ, hat, Sem.run_bind, run_underlying ht, Result.andThen_ok, hme, zna h1, hc, hrun, zpD _ h1, Sem.run_pure]
        · rw [Array.eraseIdxIfInBounds, dif_pos (by omega)]
          simp [List.length_eraseIdx, hplt, hms]
        · rw [Array.eraseIdxIfInBounds, dif_pos (by omega), ← Array.getElem?_toList, Array.toList_eraseIdx] at hy
          rw [List.getElem?_eraseIdx] at hj hy
          split at hj
          · rename_i hlt'
            rw [if_pos hlt'] at hy
            exact h3 j' e' y' hj hy
          · rename_i hlt'
            rw [if_neg hlt'] at hy
            exact h3 (j' + 1) e' y' hj hy
      · rename_i hf
        have hrun := run_findKey' (zgc hkk hu es ms.toList 0 h2 h3 hf)
        have hset : σ.set id (.mapr c0 bs0 es) = σ := by
          apply List.ext_getElem?
          intro j
          rw [List.getElem?_set]
          split
          · rename_i e; subst e; rw [hes, if_pos (ze hes)]
          · rfl
        refine fin (es' := es) (ms' := ms) ?_ (by simpa using h2) (fun j' e' y' hj hy => h3 j' e' y' hj (by simpa using hy)) h9 (by rw [h5b, hset]; exact h)
        simp only [Builtin.delete_, List.getElem?_toArray, List.getElem?_cons_zero, List.getElem?_cons_succ, hat, Sem.run_bind, run_underlying ht, Result.andThen_ok, hme, zna h1, hc, hrun, zpD _ h1, Sem.run_pure]
      · exact h.elim
    · exact h.elim
  · rename_i hid
    rw [hid] at hv
    obtain ⟨hfit, h⟩ := h
    have hc := zjg hkk hfit hu
    refine .same S (r := .tup []) (v := .tuple #[]) (run ?_) (.tup [] [] rfl (by simp)) h
    simp only [Builtin.delete_, List.getElem?_toArray, List.getElem?_cons_zero, List.getElem?_cons_succ, hat, Sem.run_bind, run_underlying ht, Result.andThen_ok, hv.nilmap_inv, hc, Sem.run_pure]
  · exact h.elim

theorem snd_isnil (S : Sim L σ w) (F : FR w L σ fr a.tmps) {op : BinOp} {t u : TypeId} {x y : Operand} {x' : Opd} (hn : nilCmp P op t y = true) (hx : opd x = some x') (ho : o.op = .binOp op t x y u)
    (h : zar P (.isnil (zoo op) x') fr σ K) : zai P o a L σ w K := by
  simp only [zar, zZ] at h
  have hv := zA F hx
  obtain ⟨e, ht, hy, hop⟩ : ∃ e, P.underlying t = some (.slice e) ∧ y = .const (.slice none 0 0) ∧ (op = .eql ∨ op = .neq) := by
    unfold nilCmp at hn
    split at hn
    · exact ⟨_, by assumption, rfl, .inl rfl⟩
    · exact ⟨_, by assumption, rfl, .inr rfl⟩
    · cases hn
  subst hy
  have fin : ∀ {b n c}, a.eval x = .slice b n c → K (.d (.bool (b.isNone != zoo op))) σ → zai P o a L σ w K := fun {b n c} h1 h2 => by
    refine .same S (r := .d (.bool (b.isNone != zoo op))) (v := .bool (b.isNone != zoo op)) ?_ (.d _ _ (.bool _)) h2
    have he : a.eval (.const (.slice none 0 0)) = .slice none 0 0 := rfl
    rcases hop with rfl | rfl
    · simp [execOp, ho, h1, he, eqGuard_at_slice, Lib.run_eql_slice_nil w t e b n c 0 0 ht, zoo]
    · have := run_neq_slice_nil_any w t e b n c 0 0 ht
      simp [execOp, ho, h1, he, eqGuard_at_slice, this, zoo]
  split at h
  · rename_i hes
    obtain ⟨b, cap, hX, _⟩ := (hv.esOf_inv hes).len
    refine fin hX ?_
    cases b with
    | none => cases hq : zoo op <;> simp <;> first | exact h.1 | exact h.2
    | some _ => cases hq : zoo op <;> simp <;> first | exact h.1 | exact h.2
  · rename_i e' es' hes
    obtain ⟨b, cap, hX, hle, hb⟩ := (hv.esOf_inv hes).len
    refine fin hX ?_
    cases b with
    | none => have := hb rfl; simp at hle; omega
    | some _ => simpa using h
  · split at h
    · rename_i hid
      rw [hid] at hv
      obtain ⟨hX, _⟩ := hv.bsl_inv
      exact fin hX (by simpa using h)
    · rename_i lo hi hid
      rw [hid] at hv
      obtain ⟨b, cap, hX, _, _, hle, hb, _⟩ := hv.rsl_inv
      refine fin hX ?_
      rcases Nat.eq_zero_or_pos (hi - lo) with h0 | h0
      · have h' := h.1 h0
        cases b with
        | none => cases hq : zoo op <;> simp <;> first | exact h'.1 | exact h'.2
        | some _ => cases hq : zoo op <;> simp <;> first | exact h'.1 | exact h'.2
      · have h' := h.2 h0
        cases b with
        | none => have := hb rfl; omega
        | some _ => simpa using h'
    · exact h.elim

end

section
variable {P : Program} {o : Oper} {i : I} {fr : zE} {σ : List zc} {K : AV → List zc → Prop} {L : Nat → Loc} {w : World} {a : Act}

theorem heap_same {w : World} {b : Nat} {x : Obj} (h : w.heap[b]? = some x) : ({ w with heap := w.heap.setIfInBounds b x } : World) = w := by
  have : w.heap.setIfInBounds b x = w.heap := by
    apply Array.ext_getElem?
    intro i
    rw [Array.getElem?_setIfInBounds]
    split
    · rename_i e; subst e; rw [h]; simp [(Array.getElem?_eq_some_iff.1 h).1]
    · rfl
  rw [this]
theorem obj_tell (S : Sim L σ w) {id : Nat} {x x' : zc} (hx : σ[id]? = some x) (hk : x'.kind = x.kind) (h2 : 2 ≤ x.kind) (h3 : x.kind ≤ 3) {ob : Obj} (hb : w.heap[(L id).a.block]? = some ob)
    (hok : zcq L σ w L (σ.set id x') w → zlQ w L (σ.set id x') (L id) x') : zcq L σ w L (σ.set id x') w ∧ Sim L (σ.set id x') w := by
  have := zii S hx hk h2 h3 ob (fun w' e st => by rw [heap_same hb] at e; subst e; exact hok st)
  rwa [heap_same hb] at this
theorem snd_rangeM (S : Sim L σ w) (F : FR w L σ fr a.tmps) {t kt et : TypeId} {x : Operand} {y : Opd} (ht : P.underlying t = some (.map kt et)) (hx : opd x = some y) (ho : o.op = .range t x) (h : zar P (.rangeM y) fr σ K) : zai P o a L σ w K := by
  simp only [zar, zji] at h
  have hv := zA F hx
  split at h
  · rename_i id hid
    rw [hid] at hv
    obtain ⟨hX, hfix⟩ := hv.map_inv
    split at h
    · rename_i es hes
      obtain ⟨ms, clock, h1, h2, h3, h4⟩ := S.obj id _ hes
      have hlt := ze hes
      obtain ⟨s1, S1⟩ := obj_tell S hes (x' := .mapr clock (ms.toList.map (·.born)) es) rfl (by simp [zc.kind]) (by simp [zc.kind]) h1 (fun st => ⟨ms, h1, h2, fun i e m he hm => (h3 i e m he hm).mono st, h4, rfl⟩)
      obtain ⟨σ1, hσ1⟩ : ∃ σ1, σ.set id (.mapr clock (ms.toList.map (·.born)) es) = σ1 := ⟨_, rfl⟩
      have hK := h clock (ms.toList.map (·.born)) (by simpa using h2) h4.1
      have hl1 : σ1.length = σ.length := by rw [← hσ1]; simp
      have hg1 : σ1[id]? = some (.mapr clock (ms.toList.map (·.born)) es) := by rw [← hσ1]; exact List.getElem?_set_self hlt
      rw [hσ1] at s1 S1 hK
      have hf : ∀ b c, zdB { a := ⟨w.heap.size, 0, none⟩ } (.mit (some id) clock []) b c → b = w.heap.size := fun b c h => h
      have st := zcO L σ1 (.mapIter (some (L id).a.block) clock #[] clock) { a := ⟨w.heap.size, 0, none⟩ } (.mit (some id) clock []) hf
      have S' := zdR S1 (.mapIter (some (L id).a.block) clock #[] clock) { a := ⟨w.heap.size, 0, none⟩ } (.mit (some id) clock []) hf (by
        refine ⟨⟨_, by rw [List.getElem?_append_left (by omega)]; exact hg1, by simp [zc.kind]⟩, ?_⟩
        rw [zaO (by omega)]
        show (w.heap.push _)[w.heap.size]? = _
        simp)
      refine ⟨.iter σ1.length, .pointer (some ⟨w.heap.size, 0, none⟩), _, _, _, .inl ?_, s1.trans st, S', ?_, by rw [hl1]; exact hK⟩
      · have := run_range_map (P := P) w t kt et (L id).a.block ms clock ht h1
        simp [execOp, ho, hX, this]
      · have := RV.iter (w := w.alloc (.mapIter (some (L id).a.block) clock #[] clock)) (L := zgr L σ1.length { a := ⟨w.heap.size, 0, none⟩ }) (σ := σ1 ++ [.mit (some id) clock []]) σ1.length ⟨.mit (some id) clock [], by simp, by simp [zc.kind]⟩
        rw [zF] at this
        exact this
    · exact h.elim
  · rename_i hid
    rw [hid] at hv
    have hX := hv.nilmap_inv
    have hf : ∀ b c, zdB { a := ⟨w.heap.size, 0, none⟩ } (.mit none 0 []) b c → b = w.heap.size := fun b c h => h
    have st := zcO L σ (.mapIter none 0 #[] 0) { a := ⟨w.heap.size, 0, none⟩ } (.mit none 0 []) hf
    have S' := zdR S (.mapIter none 0 #[] 0) { a := ⟨w.heap.size, 0, none⟩ } (.mit none 0 []) hf (by
      show (w.heap.push _)[w.heap.size]? = _
      simp)
    refine ⟨.iter σ.length, .pointer (some ⟨w.heap.size, 0, none⟩), _, _, _, .inl ?_, st, S', ?_, h⟩
    · have := run_range_nilMap (P := P) w t kt et ht
      simp [execOp, ho, hX, this]
    · have := RV.iter (w := w.alloc (.mapIter none 0 #[] 0)) (L := zgr L σ.length { a := ⟨w.heap.size, 0, none⟩ }) (σ := σ ++ [.mit none 0 []]) σ.length ⟨.mit none 0 [], by simp, by simp [zc.kind]⟩
      rw [zF] at this
      exact this
  · exact h.elim

theorem run_nextR (w : World) (ty : TypeId) (r bm c : Nat) (seen : Array Nat) (es : Array MapEntry) (hr : w.heap[r]? = some (.mapIter (some bm) c seen c)) (hb : w.heap[bm]? = some (.map es c)) (hold : ∀ x ∈ es.toList, x.born < c) :
    ((∀ x ∈ es.toList, seen.contains x.born = true) ∧ (Instr.next (.pointer (some ⟨r, 0, none⟩)) false ty).run P w = .ok (.tuple #[.bool false]) w) ∨
    ∃ e ∈ es.toList, seen.contains e.born = false ∧ ∃ d, (Instr.next (.pointer (some ⟨r, 0, none⟩)) false ty).run P w = .ok (.tuple #[.bool true, e.key, e.val]) { w with drawn := d, heap := w.heap.setIfInBounds r (.mapIter (some bm) c (seen.push e.born) c) } := by
  simp only [Instr.next, getObj, Sem.run_bind, Sem.run, hr, hb, Result.andThen, next_test_false seen es c c hold (Nat.le_refl _), Bool.false_eq_true, if_false]
  have hmem0 : ∀ x ∈ (Array.filter (fun e => !seen.contains e.born) es).toList, x ∈ es.toList ∧ seen.contains x.born = false := fun x hx => by
    simp at hx ⊢; exact hx
  have hall0 : (Array.filter (fun e => !seen.contains e.born) es).size = 0 → ∀ x ∈ es.toList, seen.contains x.born = true := fun h0 x hx => by
    have h1 : Array.filter (fun e => !seen.contains e.born) es = #[] := Array.eq_empty_of_size_eq_zero h0
    rw [Array.filter_eq_empty_iff] at h1
    have := h1 x (by simpa using hx)
    simpa using this
  generalize Array.filter (fun e => !seen.contains e.born) es = Lf at hmem0 hall0 ⊢
  have e1 : Lf.filter (fun x => decide (x.born < c)) = Lf := Array.filter_eq_self.2 (fun x hx => by simpa using hold x (hmem0 x (by simpa using hx)).1)
  have e2 : Lf.filter (fun x => decide (x.born ≥ c)) = #[] := by
    rw [Array.filter_eq_empty_iff]
    intro x hx
    have := hold x (hmem0 x (by simpa using hx)).1
    simp
    omega
  simp only [e1, e2, Array.append_empty]
  by_cases h0 : Lf.size = 0
  · left
    refine ⟨hall0 h0, ?_⟩
    have : Lf = #[] := Array.eq_empty_of_size_eq_zero h0
    subst this
    simp [choose, Sem.run, Question.forced]
  · right
    have hne : Lf.isEmpty = false := by simp [Array.isEmpty, h0]
    simp only [hne, Bool.false_eq_true, if_false, Array.empty_append, Array.size_map]
    have hch : ∃ (j d : Nat), j < Lf.size ∧ (choose (Question.mapNext Lf.size)).run P w = .ok j { w with drawn := d } := by
      by_cases hf : Lf.size ≤ 1
      · exact ⟨0, w.drawn, by omega, by simp [choose, Sem.run, Question.forced, hf]⟩
      · exact ⟨_, w.drawn + 1, Nat.mod_lt _ (by omega), by
          simp only [choose, Sem.run, Question.forced, decide_eq_true_eq, hf, if_false, Question.cut]
          rfl⟩
    obtain ⟨j, d, hj, hrun⟩ := hch
    refine ⟨Lf[j], (hmem0 _ (by simp)).1, (hmem0 _ (by simp)).2, d, ?_⟩
    simp only [hrun, Array.getElem?_map, Array.getElem?_eq_getElem hj, Option.map_some, Sem.run_bind, setObj, Sem.run, hr, Result.andThen]
    rfl

theorem snd_nextM (S : Sim L σ w) (F : FR w L σ fr a.tmps) {x : Operand} {y : Opd} (hx : opd x = some y) (ho : o.op = .next x false) (h : zar P (.nextM y) fr σ K) : zai P o a L σ w K := by
  simp only [zar, zmN] at h
  have hv := zA F hx
  split at h
  · rename_i id hid
    rw [hid] at hv
    obtain ⟨hX, hfix⟩ := hv.iter_inv
    have one : ∀ {L : Nat → Loc} {σ : List zc} {w : World}, RV w L σ (.tup [.d (.bool false)]) (.tuple #[.bool false]) := fun {L σ w} => .tup [.d (.bool false)] [.bool false] rfl (fun i c v hc hv => by
      match i with
      | 0 => simp at hc hv; subst hc hv; exact .d _ _ (.bool _)
      | n + 1 => simp at hc)
    split at h
    · rename_i c seen hs
      have hob : w.heap[(L id).a.block]? = some (.mapIter none 0 #[] 0) := S.obj id _ hs
      refine .same S (r := .tup [.d (.bool false)]) (v := .tuple #[.bool false]) ?_ one h
      simp only [execOp, ho, hX, Instr.next, getObj, Sem.run_bind, Sem.run, hob, Result.andThen]
      rfl
    · rename_i m c seen hs
      split at h
      · rename_i c' bs es hm
        obtain ⟨rfl, hover, hnext⟩ := h
        obtain ⟨hfx, hob⟩ := S.obj id _ hs
        obtain ⟨ms, k1, k2, k3, k4, k5⟩ := S.obj m _ hm
        have hrun := run_nextR (P := P) w o.type (L id).a.block (L m).a.block c' seen.toArray ms hob k1 k4.2
        rcases hrun with ⟨hall, hrun⟩ | ⟨e, he, hes, d, hrun⟩
        · obtain ⟨st, S'⟩ := obj_tell S hm (x' := .map es) rfl (by simp [zc.kind]) (by simp [zc.kind]) k1 (fun st => ⟨ms, c', k1, k2, fun i e m he hm => (k3 i e m he hm).mono st, k4⟩)
          refine ⟨.tup [.d (.bool false)], .tuple #[.bool false], L, _, w, .inl ?_, st, S', one, hover fun b hb => ?_⟩
          · simp [execOp, ho, hX, hrun]
          · rw [← k5] at hb
            obtain ⟨e, he, rfl⟩ := List.mem_map.1 hb
            simpa using hall e he
        · obtain ⟨S1, s1⟩ := S.drew d
          obtain ⟨i, hi⟩ := List.mem_iff_getElem?.1 he
          have hil := ze hi
          have hi' : ms[i]? = some e := by simpa using hi
          have hei : es[i]? = some (es[i]'(by rw [← k2]; simpa using hil)) := List.getElem?_eq_getElem _
          have hbi : bs[i]? = some e.born := by rw [← k5, List.getElem?_map, hi]; rfl
          have hK := hnext i e.born _ hbi hei (by simpa using hes)
          have hre := k3 i _ e hei hi'
          have hlt := (Array.getElem?_eq_some_iff.1 hob).1
          obtain ⟨st, S'⟩ := zii S1 hs (x' := .mit (some m) c' (seen ++ [e.born])) rfl (by simp [zc.kind]) (by simp [zc.kind]) (.mapIter (some (L m).a.block) c' (seen.toArray.push e.born) c') (fun w' e' st => by
            subst e'
            refine ⟨(st.fixed hfx).1, ?_⟩
            show (w.heap.setIfInBounds _ _)[_]? = _
            simp [hlt])
          refine ⟨_, .tuple #[.bool true, e.key, e.val], L, _, _, .inl ?_, s1.trans st, S', ?_, hK⟩
          · simp [execOp, ho, hX, hrun]
          · have hre' := hre.mono (s1.trans st)
            exact .tup [.d (.bool true), (es[i]'(by rw [← k2]; simpa using hil)).1, (es[i]'(by rw [← k2]; simpa using hil)).2] [.bool true, e.key, e.val] rfl (fun j c v hc hv => by
              match j with
              | 0 => simp at hc hv; subst hc hv; exact .d _ _ (.bool _)
              | 1 => simp at hc hv; subst hc hv; exact hre'.1
              | 2 => simp at hc hv; subst hc hv; exact hre'.2
              | n + 3 => simp at hc)
      · exact h.elim
    · exact h.elim
  · exact h.elim
theorem born_find (e : MapEntry) : ∀ (l : List MapEntry), (l.map (·.born)).Nodup → e ∈ l → l.find? (·.born == e.born) = some e
  | x :: l, hn, he => by
    obtain ⟨h1, h2⟩ := List.nodup_cons.1 hn
    rcases List.mem_cons.1 he with rfl | h
    · simp
    · have hx : (x.born == e.born) = false := by
        cases hc : x.born == e.born with
        | false => rfl
        | true => exact absurd (List.mem_map.2 ⟨e, h, (beq_iff_eq.1 hc).symm⟩) h1
      rw [List.find?_cons, hx]
      exact born_find e l h2 h
theorem snd_entryM (S : Sim L σ w) (F : FR w L σ fr a.tmps) {x : Operand} {y : Opd} (hx : opd x = some y) (ho : o.op = .entry x) (h : zar P (.entryM y) fr σ K) : zai P o a L σ w K := by
  simp only [zar, zjs] at h
  have hv := zA F hx
  split at h
  · rename_i id hid
    rw [hid] at hv
    obtain ⟨hX, hfix⟩ := hv.iter_inv
    split at h
    · rename_i m c seen hs
      split at h
      · rename_i c' bs es hm
        obtain ⟨rfl, i, b, e, h1, h2, h3, h4⟩ := h
        obtain ⟨hfx, hob⟩ := S.obj id _ hs
        obtain ⟨ms, k1, k2, k3, k4, k5⟩ := S.obj m _ hm
        rw [← k5, List.getElem?_map] at h2
        obtain ⟨y', hy, hyb⟩ := Option.map_eq_some_iff.1 h2
        have hf : ms.find? (·.born == b) = some y' := by rw [← Array.find?_toList, ← hyb]; exact born_find y' ms.toList k4.1 (List.mem_of_getElem? hy)
        have hre := k3 i e y' h3 (by simpa using hy)
        have hbk : seen.toArray.back? = some b := by simp [h1]
        refine .same S (r := .tup [e.1, e.2]) (v := .tuple #[y'.key, y'.val]) ?_ ?_ h4
        · simp only [execOp, ho, hX, Instr.entry, getObj, Sem.run_bind, Sem.run, hob, k1, hbk, Result.andThen, bne_self_eq_false, Bool.false_eq_true, if_false, hf]
          rfl
        · exact .tup [e.1, e.2] [y'.key, y'.val] rfl (fun j c v hc hv => by
            match j with
            | 0 => simp at hc hv; subst hc hv; exact hre.1
            | 1 => simp at hc hv; subst hc hv; exact hre.2
            | n + 2 => simp at hc)
      · exact h.elim
    · exact h.elim
  · exact h.elim
end

section
variable {P : Program} {o : Oper} {fr : zE} {σ : List zc} {K : AV → List zc → Prop} {L : Nat → Loc} {w : World} {a : Act}

theorem callOk_spec {f : FuncId} (h : zqi P f = true) : ∃ fn c, P.funcs[f]? = some fn ∧ fn.name ≠ "runtime.NumGoroutine" ∧ fn.body = some c := by
  unfold zqi at h
  split at h
  · rename_i fn hf
    simp only [Bool.and_eq_true, bne_iff_ne, ne_eq] at h
    obtain ⟨h1, h2⟩ := h
    cases hb : fn.body with
    | none => simp [hb] at h2
    | some c => exact ⟨fn, c, hf, h1, hb⟩
  · cases h

theorem zgV {f : FuncId} (h : zqi P f = true) (args : Array Value) (w : World) : (callFunc f args).run P w = .ok (.enter f args) w := by
  obtain ⟨fn, c, h1, h2, h3⟩ := callOk_spec h
  simp [callFunc, program, Sem.run, h1, h2, h3]

theorem dm1_sound {x : AV} {v : Value} (h : RV w L σ x v) : RV w L σ (dm1 x) v := by
  cases h with
  | own _ _ _ _ _ _ _ _ h => exact .d _ _ h
  | exact _ _ h => exact .d _ _ h
  | d _ _ h => exact .d _ _ h
  | agg _ _ h1 h2 => exact .agg _ _ h1 h2
  | tup _ _ h1 h2 => exact .tup _ _ h1 h2
  | bsl _ _ _ _ _ h1 h2 => exact .bsl _ _ _ _ _ h1 h2
  | box _ _ h => exact .box _ _ h
  | vp _ _ _ h => exact .vp _ _ _ h
  | map _ h => exact .map _ h
  | iter _ h => exact .iter _ h
  | fn _ _ _ _ _ h1 h2 h3 h4 => exact .fn _ _ _ _ _ h1 h2 h3 h4
  | rsl _ _ _ _ _ _ _ h1 h2 h3 h4 h5 h6 h7 => exact .rsl _ _ _ _ _ _ _ h1 h2 h3 h4 h5 h6 h7
  | rpt _ _ _ _ _ h1 h2 h3 => exact .rpt _ _ _ _ _ h1 h2 h3
  | undef _ => exact .undef _

theorem znF {x : AV} {v : Value} (h : RV w L σ x v) : RV w L σ (dm x) v := by
  cases x with
  | agg cs =>
    obtain ⟨vs, rfl, h1, h2⟩ := h.agg_inv
    refine .agg _ _ (by simpa using h1) fun i c v hc hv => ?_
    simp only [List.getElem?_map, Option.map_eq_some_iff] at hc
    obtain ⟨c', hc', rfl⟩ := hc
    exact dm1_sound (h2 i c' v hc' hv)
  | _ => exact dm1_sound h

theorem RVs.append {as0 bs : List AV} {us vs : List Value} (h1 : RVs w L σ as0 us) (h2 : RVs w L σ bs vs) : RVs w L σ (as0 ++ bs) (us ++ vs) := by
  refine ⟨by simp [h1.1, h2.1], fun i x v hx hv => ?_⟩
  rcases Nat.lt_or_ge i as0.length with hl | hl
  · rw [List.getElem?_append_left hl] at hx
    rw [List.getElem?_append_left (by rw [h1.1]; exact hl)] at hv
    exact h1.2 i x v hx hv
  · rw [List.getElem?_append_right hl] at hx
    rw [List.getElem?_append_right (by rw [h1.1]; exact hl), h1.1] at hv
    exact h2.2 _ x v hx hv

theorem zoD (F : FR w L σ fr a.tmps) {os : List Operand} {xs : List Opd} (h : os.mapM opd = some xs) : RVs w L σ (xs.map fun x => dm (ev fr x)) (os.map a.eval) := by
  have h0 := zhL F h
  refine ⟨by have := h0.1; simpa using this, fun i b v hb hv => ?_⟩
  simp only [List.getElem?_map, Option.map_eq_some_iff] at hb
  obtain ⟨x, hx, rfl⟩ := hb
  exact znF (h0.2 i (ev fr x) v (by simp [hx]) hv)

abbrev After (P : Program) (o : Oper) (a : Act) (L : Nat → Loc) (σ : List zc) (w : World) (K : AV → List zc → Prop) (next : Act → World → Prop) : Prop :=
  ∀ r v L' σ' w', zcq L σ w L' σ' w' → Sim L' σ' w' → RV w' L' σ' r v → K r σ' → next (a.put o.dst v) w'

def Outc (P : Program) (o : Oper) (a : Act) (L : Nat → Loc) (σ : List zc) (w : World) (K : AV → List zc → Prop) : Prop :=
  zai P o a L σ w K ∨ (∃ (f : FuncId) (vs : List Value), (execOp a.eval o).run P w = .ok (.enter f vs.toArray) w ∧ Calls P f vs.toArray w (CR L σ w K)) ∨
  ∃ l fn tmps assign body, (execOp a.eval o).run P w = .ok (.round l fn tmps assign body) w ∧ RoundIn Fence.wide 0 P l fn tmps assign body w (CR L σ w K)
theorem zai.out (h : zai P o a L σ w K) : Outc P o a L σ w K := .inl h
theorem zrd {f : FuncId} {as0 : List AV} {vs : List Value} (hrun : (execOp a.eval o).run P w = .ok (.enter f vs.toArray) w) (S : Sim L σ w) (hv : RVs w L σ as0 vs) (h : zl P f as0 σ K) : Outc P o a L σ w K :=
  .inr (.inl ⟨f, vs, hrun, h.2 L w vs S hv⟩)

theorem astep_sound {i : I} (hc : zbu P o = some i.norm) (S : Sim L σ w) (F : FR w L σ fr a.tmps) (h : zar P i fr σ K) : Outc P o a L σ w K := by
  cases hop : o.op with
  | move x =>
    simp only [zbu, hop, Option.bind_eq_bind, Option.bind_eq_some_iff, Option.pure_def, Option.some.injEq] at hc
    obtain ⟨y, hy, hc⟩ := hc
    cases i <;> simp only [I.norm] at hc <;> cases hc
    exact (snd_mv S F hy (.inl hop) h).out
  | assign x =>
    simp only [zbu, hop, Option.bind_eq_bind, Option.bind_eq_some_iff, Option.pure_def, Option.some.injEq] at hc
    obtain ⟨y, hy, hc⟩ := hc
    cases i <;> simp only [I.norm] at hc <;> cases hc
    exact (snd_mv S F hy (.inr hop) h).out
  | pick c x y =>
    simp only [zbu, hop, Option.bind_eq_bind, Option.bind_eq_some_iff, Option.pure_def, Option.some.injEq] at hc
    obtain ⟨c', hc', x', hx, y', hy, hc⟩ := hc
    cases i <;> simp only [I.norm] at hc <;> cases hc
    exact (snd_pick S F hc' hx hy hop h).out
  | alloc t =>
    simp only [zbu, hop, Option.bind_eq_bind, Option.bind_eq_some_iff, Option.pure_def, Option.some.injEq] at hc
    obtain ⟨z, hz, hc⟩ := hc
    cases i <;> simp only [I.norm] at hc <;> cases hc
    exact (snd_alloc S hz hop h).out
  | box t x =>
    simp only [zbu, hop, Option.bind_eq_bind, Option.bind_eq_some_iff, Option.pure_def, Option.some.injEq] at hc
    obtain ⟨y, hy, hc⟩ := hc
    cases i <;> simp only [I.norm] at hc <;> cases hc
    exact (snd_box S F hy hop h).out
  | build t parts =>
    have hc' := hc
    simp only [zbu, hop] at hc
    have : i.norm = i := by
      split at hc
      · simp only [Option.bind_eq_bind, Option.bind_eq_some_iff] at hc
        obtain ⟨_, _, _, _, hc⟩ := hc
        split at hc
        · simp only [Option.pure_def, Option.some.injEq] at hc
          cases i <;> simp only [I.norm] at hc <;> cases hc; rfl
        · cases hc
      · simp only [Option.bind_eq_bind, Option.bind_eq_some_iff, Option.pure_def, Option.some.injEq] at hc
        obtain ⟨_, _, _, _, _, _, hc⟩ := hc
        cases i <;> simp only [I.norm] at hc <;> cases hc; rfl
      · cases hc
    rw [this] at hc'
    exact (snd_build S F hop hc' h).out
  | buildSlice t n parts =>
    have hc' := hc
    simp only [zbu, hop] at hc
    split at hc
    · simp only [Option.bind_eq_bind, Option.bind_eq_some_iff, Option.pure_def] at hc
      obtain ⟨_, _, _, _, _, _, hc⟩ := hc
      split at hc
      · simp only [Option.some.injEq] at hc
        cases i <;> simp only [I.norm] at hc <;> cases hc
        exact (snd_mkslice S F hop hc' h).out
      · cases hc
    · cases hc
  | load t x =>
    simp only [zbu, hop, Option.bind_eq_bind, Option.bind_eq_some_iff, Option.pure_def, Option.some.injEq] at hc
    obtain ⟨g, hg, n, hn, y, hy, hc⟩ := hc
    cases i <;> simp only [I.norm] at hc <;> cases hc
    exact (snd_load S F hg hn hy hop h).out
  | store t x y =>
    simp only [zbu, hop, Option.bind_eq_bind, Option.bind_eq_some_iff, Option.pure_def, Option.some.injEq] at hc
    obtain ⟨n, hn, x', hx, y', hy, hc⟩ := hc
    cases i <;> simp only [I.norm] at hc <;> cases hc
    exact (snd_store S F hn hx hy hop h).out
  | nilCheck x =>
    simp only [zbu, hop, Option.bind_eq_bind, Option.bind_eq_some_iff, Option.pure_def, Option.some.injEq] at hc
    obtain ⟨y, hy, hc⟩ := hc
    cases i <;> simp only [I.norm] at hc <;> cases hc
    exact (snd_nilchk S F hy hop h).out
  | binOp op t x y u =>
    simp only [zbu, hop] at hc
    split at hc
    · rename_i hn
      simp only [Option.bind_eq_bind, Option.bind_eq_some_iff, Option.pure_def, Option.some.injEq] at hc
      obtain ⟨x', hx, hc⟩ := hc
      cases i <;> simp only [I.norm] at hc <;> cases hc
      exact (snd_isnil S F hn hx hop h).out
    · simp only [Option.bind_eq_bind, Option.bind_eq_some_iff, Option.pure_def, Option.some.injEq] at hc
      obtain ⟨e, he, x', hx, y', hy, hc⟩ := hc
      cases i <;> simp only [I.norm] at hc <;> cases hc
      exact (snd_bin S F he hx hy hop h).out
  | makeMap t r =>
    cases r with
    | some r => simp [zbu, hop] at hc
    | none =>
      simp only [zbu, hop] at hc
      split at hc
      · rename_i kt et ht
        cases i <;> simp only [I.norm] at hc <;> cases hc
        exact (snd_mkmap S ht hop h).out
      · cases hc
  | lookup t m k ok =>
    simp only [zbu, hop] at hc
    split at hc
    · rename_i kt et ht
      simp only [Option.bind_eq_bind, Option.bind_eq_some_iff, Option.pure_def, Option.some.injEq] at hc
      obtain ⟨kk, hkk, inf, hi, z, hz, za, hza, m', hm, k', hk', hc⟩ := hc
      cases i <;> simp only [I.norm] at hc <;> cases hc
      exact (snd_mget S F ht hkk hi hz hza hm hk' hop h).out
    · cases hc
  | mapUpdate t m k x =>
    simp only [zbu, hop] at hc
    split at hc
    · rename_i kt et ht
      simp only [Option.bind_eq_bind, Option.bind_eq_some_iff, Option.pure_def, Option.some.injEq] at hc
      obtain ⟨kk, hkk, m', hm, k', hk', x', hx, hc⟩ := hc
      cases i <;> simp only [I.norm] at hc <;> cases hc
      exact (snd_mset S F ht hkk hm hk' hx (.inl hop) h).out
    · cases hc
  | insert t m k x =>
    simp only [zbu, hop] at hc
    split at hc
    · rename_i kt et ht
      simp only [Option.bind_eq_bind, Option.bind_eq_some_iff, Option.pure_def, Option.some.injEq] at hc
      obtain ⟨kk, hkk, m', hm, k', hk', x', hx, hc⟩ := hc
      cases i <;> simp only [I.norm] at hc <;> cases hc
      exact (snd_mset S F ht hkk hm hk' hx (.inr hop) h).out
    · cases hc
  | unOp op t x =>
    simp only [zbu, hop, Option.bind_eq_bind, Option.bind_eq_some_iff, Option.pure_def, Option.some.injEq] at hc
    obtain ⟨y, hy, hc⟩ := hc
    cases i <;> simp only [I.norm] at hc <;> cases hc
    exact (snd_un S F hy hop h).out
  | convert src dst x =>
    have hc' := hc
    simp only [zbu, hop] at hc
    have : i.norm = i := by
      cases i <;> first | rfl | skip
      all_goals
        split at hc <;> first
          | (split at hc <;> first | (simp only [Option.bind_eq_bind, Option.bind_eq_some_iff, Option.pure_def, Option.some.injEq] at hc; obtain ⟨_, _, hc⟩ := hc; simp only [I.norm] at hc; cases hc; done) | (cases hc; done))
          | (simp only [Option.bind_eq_bind, Option.bind_eq_some_iff, Option.pure_def, Option.some.injEq] at hc; obtain ⟨_, _, hc⟩ := hc; simp only [I.norm] at hc; cases hc; done)
          | (cases hc; done)
    rw [this] at hc'
    exact (snd_conv S F hop hc' h).out
  | slice t x lo hi mx =>
    have hc' := hc
    simp only [zbu, hop] at hc
    have : i.norm = i := by
      cases i <;> first | rfl | skip
      all_goals
        split at hc
        · simp only [Option.bind_eq_bind, Option.bind_eq_some_iff, Option.pure_def, Option.some.injEq] at hc
          obtain ⟨_, _, _, _, _, _, _, _, hc⟩ := hc; simp only [I.norm] at hc; cases hc
        · simp only [Option.bind_eq_bind, Option.bind_eq_some_iff, Option.pure_def, Option.some.injEq] at hc
          obtain ⟨_, _, _, _, _, _, _, _, _, _, hc⟩ := hc; simp only [I.norm] at hc; cases hc
        · simp only [Option.bind_eq_bind, Option.bind_eq_some_iff, Option.pure_def, Option.some.injEq] at hc
          obtain ⟨_, _, _, _, _, _, _, _, _, _, hc⟩ := hc; simp only [I.norm] at hc; cases hc
        · cases hc
    rw [this] at hc'
    exact (snd_slc S F hop hc' h).out
  | fieldAddr t x k =>
    have hc' := hc
    simp only [zbu, hop] at hc
    have : i.norm = i := by
      cases i <;> first | rfl | skip
      all_goals
        split at hc
        · simp only [Option.bind_eq_bind, Option.bind_eq_some_iff] at hc
          obtain ⟨_, _, _, _, hc⟩ := hc
          split at hc
          · cases hc
          · simp only [Option.bind_eq_some_iff, Option.pure_def, Option.some.injEq] at hc
            obtain ⟨_, _, hc⟩ := hc; simp only [I.norm] at hc; cases hc
        · cases hc
    rw [this] at hc'
    exact (snd_faddr S F hop hc' h).out
  | field t x k =>
    have hc' := hc
    simp only [zbu, hop] at hc
    have : i.norm = i := by
      cases i <;> first | rfl | skip
      all_goals
        split at hc
        · simp only [Option.bind_eq_bind, Option.bind_eq_some_iff, Option.pure_def, Option.some.injEq] at hc
          obtain ⟨_, _, _, _, _, _, _, _, hc⟩ := hc; simp only [I.norm] at hc; cases hc
        · cases hc
    rw [this] at hc'
    exact (snd_field S F hop hc' h).out
  | indexAddr t x y =>
    have hc' := hc
    simp only [zbu, hop] at hc
    have : i.norm = i := by
      cases i <;> first | rfl | skip
      all_goals
        split at hc
        · simp only [Option.bind_eq_bind, Option.bind_eq_some_iff, Option.pure_def, Option.some.injEq] at hc
          obtain ⟨_, _, _, _, _, _, hc⟩ := hc; simp only [I.norm] at hc; cases hc
        · simp only [Option.bind_eq_bind, Option.bind_eq_some_iff, Option.pure_def, Option.some.injEq] at hc
          obtain ⟨_, _, _, _, _, _, hc⟩ := hc; simp only [I.norm] at hc; cases hc
        · cases hc
    rw [this] at hc'
    exact (snd_iaddr S F hop hc' h).out
  | index t x y =>
    have hc' := hc
    simp only [zbu, hop] at hc
    have : i.norm = i := by
      cases i <;> first | rfl | skip
      all_goals
        split at hc
        · simp only [Option.bind_eq_bind, Option.bind_eq_some_iff, Option.pure_def, Option.some.injEq] at hc
          obtain ⟨_, _, _, _, hc⟩ := hc; simp only [I.norm] at hc; cases hc
        · simp only [Option.bind_eq_bind, Option.bind_eq_some_iff, Option.pure_def, Option.some.injEq] at hc
          obtain ⟨_, _, _, _, _, _, _, _, hc⟩ := hc; simp only [I.norm] at hc; cases hc
        · cases hc
    rw [this] at hc'
    exact (snd_idxA S F hop hc' h).out
  | extract x k =>
    simp only [zbu, hop, Option.bind_eq_bind, Option.bind_eq_some_iff, Option.pure_def, Option.some.injEq] at hc
    obtain ⟨y, hy, hc⟩ := hc
    cases i <;> simp only [I.norm] at hc <;> cases hc
    exact (snd_extract S F hy hop h).out
  | range t x =>
    have hc' := hc
    simp only [zbu, hop] at hc
    have : i.norm = i := by
      cases i <;> first | rfl | skip
      all_goals
        split at hc
        · simp only [Option.bind_eq_bind, Option.bind_eq_some_iff, Option.pure_def, Option.some.injEq] at hc
          obtain ⟨_, _, hc⟩ := hc; simp only [I.norm] at hc; cases hc
        · simp only [Option.bind_eq_bind, Option.bind_eq_some_iff, Option.pure_def, Option.some.injEq] at hc
          obtain ⟨_, _, hc⟩ := hc; simp only [I.norm] at hc; cases hc
        · cases hc
    rw [this] at hc'
    simp only [zbu, hop] at hc'
    split at hc'
    · rename_i hs
      exact (snd_rangeS S F hs hop (by simp only [zbu, hop, hs]; exact hc') h).out
    · rename_i hs
      simp only [Option.bind_eq_bind, Option.bind_eq_some_iff, Option.pure_def, Option.some.injEq] at hc'
      obtain ⟨y, hy, rfl⟩ := hc'
      exact (snd_rangeM S F hs hy hop h).out
    · cases hc'
  | entry x =>
    simp only [zbu, hop, Option.bind_eq_bind, Option.bind_eq_some_iff, Option.pure_def, Option.some.injEq] at hc
    obtain ⟨y, hy, hc⟩ := hc
    cases i <;> simp only [I.norm] at hc <;> cases hc
    exact (snd_entryM S F hy hop h).out
  | next x s =>
    cases s
    · simp only [zbu, hop, Option.bind_eq_bind, Option.bind_eq_some_iff, Option.pure_def, Option.some.injEq] at hc
      obtain ⟨y, hy, hc⟩ := hc
      cases i <;> simp only [I.norm] at hc <;> cases hc
      exact (snd_nextM S F hy hop h).out
    · simp only [zbu, hop, Option.bind_eq_bind, Option.bind_eq_some_iff, Option.pure_def, Option.some.injEq] at hc
      obtain ⟨y, hy, hc⟩ := hc
      cases i <;> simp only [I.norm] at hc <;> cases hc
      exact (snd_nextS S F hy hop h).out
  | makeFunc f first cap =>
    simp only [zbu, hop, Option.bind_eq_bind, Option.bind_eq_some_iff, Option.pure_def, Option.some.injEq] at hc
    obtain ⟨f', hf, c', hcp, hc⟩ := hc
    cases i <;> simp only [I.norm] at hc <;> cases hc
    exact (snd_mkfn S F hf hcp hop h).out
  | call c =>
    simp only [zbu, hop] at hc
    split at hc
    · rename_i f hcal
      split at hc
      · rename_i hok
        simp only [Option.bind_eq_bind, Option.bind_eq_some_iff, Option.pure_def, Option.some.injEq] at hc
        obtain ⟨args, hargs, hc⟩ := hc
        cases i <;> simp only [I.norm] at hc <;> cases hc
        rename_i raw
        have e1 : c.args.map a.eval = (c.args.toList.map a.eval).toArray := by apply Array.ext'; simp
        cases raw
        · refine zrd (vs := c.args.toList.map a.eval) ?_ S (zoD F hargs) h
          simp [execOp, hop, resolve, hcal, Act.eval, Deferred.ofValue, invoke, zgV hok, e1]
        · refine zrd (vs := c.args.toList.map a.eval) ?_ S (zhL F hargs) h
          simp [execOp, hop, resolve, hcal, Act.eval, Deferred.ofValue, invoke, zgV hok, e1]
      · cases hc
    · rename_i x _ hcal
      simp only [Option.bind_eq_bind, Option.bind_eq_some_iff, Option.pure_def, Option.some.injEq] at hc
      obtain ⟨g, hg, args, hargs, hc⟩ := hc
      cases i <;> simp only [I.norm] at hc <;> cases hc
      simp only [zar, zaq] at h
      have hv := zA F hg
      split at h
      · rename_i f first cap hid
        rw [hid] at hv
        obtain ⟨fs, cs, hX, r1, r2⟩ := hv.fn_inv
        refine zrd (vs := fs ++ c.args.toList.map a.eval ++ cs) ?_ S ((r1.append (zoD F hargs)).append r2) h
        have e1 : c.args.map a.eval = (c.args.toList.map a.eval).toArray := by apply Array.ext'; simp
        simp [execOp, hop, resolve, hcal, hX, Deferred.ofValue, invoke, zgV h.1, e1]
      · rename_i l hid
        rw [hid] at hv
        obtain ⟨fs, cs, hX, r1, r2⟩ := hv.fn_inv
        obtain rfl : fs = [] := List.eq_nil_of_length_eq_zero r1.1
        obtain rfl : cs = [] := List.eq_nil_of_length_eq_zero r2.1
        obtain ⟨fn, tmps, assign, body, h1, h2⟩ := h L w _ S (zoD F hargs)
        have e1 : c.args.map a.eval = (c.args.toList.map a.eval).toArray := by apply Array.ext'; simp
        refine .inr (.inr ⟨l, fn, tmps, assign, body, ?_, h2⟩)
        simp [execOp, hop, resolve, hcal, hX, Deferred.ofValue, invoke, e1, h1]
      · exact h.elim
    · rename_i hcal
      split at hc
      · rename_i t x ht hargs
        have key : ∀ (k : LK) (y : Opd), opd x = some y → i = .len k y → LKok P t k → Outc P o a L σ w K := fun k y hy hi hp => by
          subst hi; exact (snd_len S F hop hcal ht hargs hy hp h).out
        split at hc
        · rename_i hu
          simp only [Option.bind_eq_bind, Option.bind_eq_some_iff, Option.pure_def, Option.some.injEq] at hc
          obtain ⟨y, hy, hc⟩ := hc
          exact key .str y hy (by cases i <;> simp only [I.norm] at hc <;> cases hc; rfl) hu
        · rename_i e hu
          simp only [Option.bind_eq_bind, Option.bind_eq_some_iff, Option.pure_def, Option.some.injEq] at hc
          obtain ⟨y, hy, hc⟩ := hc
          exact key .sl y hy (by cases i <;> simp only [I.norm] at hc <;> cases hc; rfl) ⟨e, hu⟩
        · rename_i n e hu
          simp only [Option.bind_eq_bind, Option.bind_eq_some_iff, Option.pure_def, Option.some.injEq] at hc
          obtain ⟨y, hy, hc⟩ := hc
          exact key (.arr n) y hy (by cases i <;> simp only [I.norm] at hc <;> cases hc; rfl) (.inl ⟨e, hu⟩)
        · simp only [Option.bind_eq_bind, Option.bind_eq_some_iff, Option.pure_def, Option.some.injEq] at hc
          obtain ⟨y, hy, hc⟩ := hc
          exact key .map y hy (by cases i <;> simp only [I.norm] at hc <;> cases hc; rfl) ⟨_, _, by assumption⟩
        · rename_i e hu
          split at hc
          · rename_i n e' hu'
            simp only [Option.bind_eq_bind, Option.bind_eq_some_iff, Option.pure_def, Option.some.injEq] at hc
            obtain ⟨y, hy, hc⟩ := hc
            exact key (.arr n) y hy (by cases i <;> simp only [I.norm] at hc <;> cases hc; rfl) (.inr ⟨e, e', hu, hu'⟩)
          · cases hc
        · cases hc
      · cases hc
    · rename_i hcal
      split at hc
      · rename_i t u x y hat hargs
        have key : ∀ e, P.underlying t = some (.slice e) → ((∃ e', P.underlying u = some (.slice e')) ∨ P.underlying u = some .string) →
            (do let s ← sizeOf? P e; let i ← P.info? e; let z ← zlW P e; if 0 < s && z.length == s && 0 < i.bytes then pure (I.append false s i.bytes z (← opd x) (← opd y)) else none) = some i.norm → Outc P o a L σ w K := fun e ht hu hc => by
          simp only [Option.bind_eq_bind, Option.bind_eq_some_iff] at hc
          obtain ⟨s, hs, inf, hi, z, hz, hc⟩ := hc
          split at hc
          · rename_i hcond
            simp only [Bool.and_eq_true, decide_eq_true_eq, beq_iff_eq] at hcond
            simp only [Option.bind_eq_some_iff, Option.pure_def, Option.some.injEq] at hc
            obtain ⟨x', hx, y', hy, hc⟩ := hc
            cases i <;> simp only [I.norm] at hc <;> cases hc
            rename_i mu
            cases mu
            · exact (snd_append S F hop hcal hat hargs ht hu hs hi hz hcond.1.1 hcond.1.2 hcond.2 rfl hx hy h).out
            · exact (snd_appendR S F hop hcal hat hargs ht hu hs hi hz hcond.1.1 hcond.1.2 hcond.2 rfl hx hy h).out
          · cases hc
        split at hc
        · rename_i e e' ht hu; exact key e ht (.inl ⟨e', hu⟩) hc
        · rename_i e ht hu; exact key e ht (.inr hu) hc
        · rename_i e k0 ht hu
          simp only [Option.bind_eq_bind, Option.bind_eq_some_iff] at hc
          obtain ⟨s, hs, inf, hi, z, hz, hc⟩ := hc
          split at hc
          · rename_i hcond
            simp only [Bool.and_eq_true, decide_eq_true_eq, beq_iff_eq] at hcond
            simp only [Option.bind_eq_some_iff, Option.pure_def, Option.some.injEq] at hc
            obtain ⟨x', hx, y', hy, hc⟩ := hc
            cases i <;> simp only [I.norm] at hc <;> cases hc
            exact (snd_appz S F hop hcal hat hargs ht hu hs hi hz hcond.1.1 hcond.1.2 hcond.2 rfl hx hy h).out
          · cases hc
        · cases hc
      · cases hc
    · rename_i hcal
      split at hc
      · rename_i t m k hat hargs
        split at hc
        · rename_i kt et ht
          simp only [Option.bind_eq_bind, Option.bind_eq_some_iff, Option.pure_def, Option.some.injEq] at hc
          obtain ⟨kk, hkk, m', hm, k', hk', hc⟩ := hc
          cases i <;> simp only [I.norm] at hc <;> cases hc
          exact (snd_mdel S F hop hcal hat hargs ht hkk hm hk' h).out
        · cases hc
      · cases hc
    · rename_i hcal
      split at hc
      · rename_i t x hat hargs
        split at hc
        · rename_i e ht
          simp only [Option.bind_eq_bind, Option.bind_eq_some_iff, Option.pure_def, Option.some.injEq] at hc
          obtain ⟨x', hx, hc⟩ := hc
          cases i <;> simp only [I.norm] at hc <;> cases hc
          exact (snd_cap S F hop hcal hat hargs ht hx h).out
        · cases hc
      · cases hc
    · rename_i hcal
      simp only [Option.bind_eq_bind, Option.bind_eq_some_iff, Option.pure_def, Option.some.injEq] at hc
      obtain ⟨ys, hys, hc⟩ := hc
      cases i <;> simp only [I.norm] at hc <;> cases hc
      exact (snd_max S F hop hcal hys h).out
    · rename_i hcal
      simp only [Option.bind_eq_bind, Option.bind_eq_some_iff, Option.pure_def, Option.some.injEq] at hc
      obtain ⟨ys, hys, hc⟩ := hc
      cases i <;> simp only [I.norm] at hc <;> cases hc
      exact (snd_min S F hop hcal hys h).out
    · cases hc
  | makeInterface t x =>
    simp only [zbu, hop, Option.some.injEq] at hc
    cases i <;> simp only [I.norm] at hc <;> cases hc
    exact h.elim
  | panic x =>
    simp only [zbu, hop, Option.some.injEq] at hc
    cases i <;> simp only [I.norm] at hc <;> cases hc
    exact h.elim
  | _ => simp [zbu, hop] at hc
abbrev Fr (ro : Option Nat) : Fence := { Fence.wide with round := ro }
theorem room_fr (ro : Option Nat) (n : Nat) : (Fr ro).room n := fun _ h => by simp [Fence.wide] at h
theorem zqh {ro : Option Nat} {n : Nat} {P : Program} {f : FuncId} {args : Array Value} {w : World} {R : Ending → World → Prop} : CallsIn (Fr ro) n P f args w R ↔ Calls P f args w R :=
  (Iff.rfl : CallsIn (Fr ro) n P f args w R ↔ CallsIn Fence.wide n P f args w R).trans callsIn_wide
theorem roundIn_fr {ro : Option Nat} {n : Nat} {P : Program} {l : Nat} {f : FuncId} {tmps : Array Value} {assign body : Code} {w : World} {R : Ending → World → Prop} (h : RoundIn Fence.wide 0 P l f tmps assign body w R) : RoundIn (Fr ro) n P l f tmps assign body w R :=
  ⟨trivial, fun c cs _ => h.2 c cs (room_wide _)⟩
theorem Outc.wpIn {ro : Option Nat} {n : Nat} (hnd : ∀ c, o.op ≠ .defer c) (h : Outc P o a L σ w K) {next : Act → World → Prop} {Q : Exit → Act → World → Prop} (hk : After P o a L σ w K next) : o.wpIn (Fr ro) n P a w next Q := by
  unfold Oper.wpIn
  refine ⟨fun _ _ => trivial, ?_⟩
  rw [Oper.semAt_eq _ _ _ hnd]
  rcases h with ⟨r, v, L', σ', w', hrun, s, S', hr, hK⟩ | ⟨f, vs, hrun, hc⟩ | ⟨l, fn, tmps, assign, body, hrun, hc⟩
  · rcases hrun with hrun | ⟨hrun, rfl⟩
    · rw [hrun]; exact hk r v L' σ' w' s S' hr hK
    · rw [hrun]; exact hk r _ L' σ' w' s S' hr hK
  · rw [hrun, Oper.uponIn_enter]
    refine ⟨fun h => by simp [Fence.wide] at h, zqh.2 (hc.mono fun e w' he => ?_)⟩
    cases e with
    | returned v =>
      obtain ⟨L', σ', r, s, S', hr, hK⟩ := he
      exact hk r v L' σ' w' s S' hr hK
    | panicked ch => exact he.elim
    | outgrown => exact he.elim
  · rw [hrun, Oper.uponIn_round]
    refine ⟨fun h => by simp [Fence.wide] at h, roundIn_fr (hc.mono fun e w' he => ?_)⟩
    cases e with
    | returned v =>
      obtain ⟨L', σ', r, s, S', hr, hK⟩ := he
      exact hk r v L' σ' w' s S' hr hK
    | panicked ch => exact he.elim
    | outgrown => exact he.elim
end

end Go.AW
