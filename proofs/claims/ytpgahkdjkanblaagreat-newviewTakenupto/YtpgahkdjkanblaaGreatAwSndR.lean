/- What an operation does, against the model: append to a row of the call's own, whose cells are all known. -/
import Derived.Test.YtpgahkdjkanblaaGreatAwSnd4
import Derived.MapKept
import Derived.WideKeyRuns
import Derived.WalkSpells
import Derived.Orders
import Derived.Deep.LoopGhost
import Derived.Test.YtpgahkdjkanblaaGreatAwBase
set_option linter.all false
set_option linter.unusedSimpArgs false
set_option linter.unusedVariables false
namespace Go.AW
section
variable {P : Program} {o : Oper} {i : I} {fr : zao} {σ : List zd} {K : KT} {L : Nat → Loc} {w : World} {a : Act}

def SrcA (P : Program) (w : World) (L : Nat → Loc) (σ : List zd) (sz : Nat) (v : Value) (m : Nat) (ys : List AV) : Prop :=
  ∃ news, zsJ P w sz v m news ∧ RVs w L σ ys news ∧ (∀ u ∈ news, u.oneCell' = true) ∧ ∀ c ∈ ys, sc c = true

theorem srcA_rd {es : List (List D)} {v : Value} {sz : Nat} (hsz : ∀ e ∈ es, e.length = sz) (h : ∃ news, zsJ P w sz v es.length news ∧ ziL w (Own L σ) sz es news ∧ (∀ u ∈ news, u.oneCell' = true)) : SrcA P w L σ sz v es.length (es.flatten.map .d) := by
  obtain ⟨news, h1, h2, h3⟩ := h
  have hfl : ∀ (l : List (List D)), (∀ e ∈ l, e.length = sz) → l.flatten.length = l.length * sz := by
    intro l
    induction l with
    | nil => simp
    | cons e l ih => intro h; simp only [List.flatten_cons, List.length_append, List.length_cons, Nat.succ_mul]; rw [ih fun e he => h e (List.mem_cons_of_mem _ he), h e List.mem_cons_self]; omega
  have hget : ∀ (l : List (List D)), (∀ e ∈ l, e.length = sz) → ∀ (k : Nat) d, l.flatten[k]? = some d → ∃ i e j, l[i]? = some e ∧ e[j]? = some d ∧ k = i * sz + j := by
    intro l
    induction l with
    | nil => intro _ k d h; simp at h
    | cons e l ih =>
      intro h k d hk
      have he := h e List.mem_cons_self
      simp only [List.flatten_cons] at hk
      rcases Nat.lt_or_ge k sz with hlt | hge
      · rw [List.getElem?_append_left (by omega)] at hk
        exact ⟨0, e, k, rfl, hk, by simp⟩
      · rw [List.getElem?_append_right (by omega)] at hk
        obtain ⟨i, e', j, c1, c2, c3⟩ := ih (fun e he => h e (List.mem_cons_of_mem _ he)) _ d hk
        exact ⟨i + 1, e', j, c1, c2, by rw [Nat.succ_mul]; omega⟩
  refine ⟨news, h1, ⟨by rw [h1.1, List.length_map, hfl es hsz], fun k c u hc hu => ?_⟩, h3, fun c hc => ?_⟩
  · simp only [List.getElem?_map, Option.map_eq_some_iff] at hc
    obtain ⟨d, hd, rfl⟩ := hc
    obtain ⟨i, e, j, c1, c2, rfl⟩ := hget es hsz k d hd
    obtain ⟨v', c3, c4, _⟩ := h2 i e j d c1 c2
    rw [hu] at c3; cases c3
    exact .d _ _ c4
  · obtain ⟨d, _, rfl⟩ := List.mem_map.1 hc
    rfl

theorem row_cells (S : Sim L σ w) {t g sz : Nat} {cs : List AV} (hx : σ[t]? = some (.row g sz cs)) (lo n : Nat) (hle : (lo + n) * sz ≤ cs.length) :
    ∃ news : List Value, news.length = n * sz ∧ RVs w L σ ((cs.drop (lo * sz)).take (n * sz)) news ∧ (∀ u ∈ news, u.oneCell' = true) ∧ ∀ k u, news[k]? = some u → w.cell? ⟨(L t).a.block, (L t).a.off + lo * sz + k, none⟩ = some u := by
  obtain ⟨_, _, hsc, _, _, hcells⟩ := S.obj t _ hx
  rw [Nat.add_mul] at hle
  have hat : ∀ k, k < n * sz → ∃ u, w.cell? ⟨(L t).a.block, (L t).a.off + lo * sz + k, none⟩ = some u ∧ u.oneCell' = true ∧ ∀ c, cs[lo * sz + k]? = some c → RV w L σ c u := fun k hk => by
    have hc : cs[lo * sz + k]? = some (cs[lo * sz + k]'(by omega)) := List.getElem?_eq_getElem _
    obtain ⟨u, h1, h2⟩ := hcells _ _ hc
    rw [← Nat.add_assoc] at h1
    exact ⟨u, h1, h2.one (hsc _ (List.mem_of_getElem? hc)), fun c hc' => by rw [hc] at hc'; cases hc'; exact h2⟩
  refine ⟨(List.range (n * sz)).map fun k => (w.cell? ⟨(L t).a.block, (L t).a.off + lo * sz + k, none⟩).getD undef, by simp, ⟨by simp; omega, fun k c u hc hu => ?_⟩, fun u hu => ?_, fun k u hu => ?_⟩
  · have hk : k < n * sz := by have := zh hu; simpa using this
    rw [List.getElem?_take, if_pos hk, List.getElem?_drop] at hc
    obtain ⟨u', h1, _, h3⟩ := hat k hk
    simp [hk, h1] at hu
    subst hu
    exact h3 c hc
  · simp at hu
    obtain ⟨k, hk, rfl⟩ := hu
    obtain ⟨u', h1, h2, _⟩ := hat k hk
    rw [h1]; exact h2
  · have hk : k < n * sz := by have := zh hu; simpa using this
    obtain ⟨u', h1, _, _⟩ := hat k hk
    simp [hk, h1] at hu
    subst hu
    exact h1

theorem row_src (S : Sim L σ w) {t g sz lo hi : Nat} {cs : List AV} {v : Value} (hv : RV w L σ (.rsl t g sz lo hi) v) (hx : σ[t]? = some (.row g sz cs)) :
    ∃ news, zsJ P w sz v (hi - lo) news ∧ RVs w L σ ((cs.drop (lo * sz)).take ((hi - lo) * sz)) news ∧ (∀ u ∈ news, u.oneCell' = true) := by
  obtain ⟨b, c, rfl, _, hlh, hle, hb, hb', _, hcur⟩ := hv.rsl_inv
  obtain ⟨_, q2, q3, q4, q5⟩ := hcur sz cs hx
  obtain ⟨news, h1, h2, h3, h4⟩ := row_cells S hx lo (hi - lo) (by rw [show lo + (hi - lo) = hi by omega]; exact q2)
  refine ⟨news, ⟨h1, fun w' hw => ⟨by simp [Builtin.lenOf], ?_⟩⟩, h2, h3⟩
  rcases Nat.eq_zero_or_pos (hi - lo) with h0 | h0
  · have : news = [] := List.eq_nil_of_length_eq_zero (by rw [h1, h0]; simp)
    subst this
    cases b with
    | none => simp [Builtin.firstCells, h0]
    | some b => simp [Builtin.firstCells, h0, loadCells, loadCellsFrom]
  · rw [q5 (by omega)]
    have := run_loadCells_list (P := P) w' ⟨(L t).a.block, (L t).a.off + lo * sz, none⟩ news (fun j u hj => by rw [zcq, cell?_heap hw]; exact h4 j u hj)
    rw [h1] at this
    simp [Builtin.firstCells, this]

theorem zqW (id g sz : Nat) (cs : List AV) : ∀ (xs : List AV) (vs : List Value) (off i : Nat) (w : World), Sim L σ w → σ[id]? = some (.row g sz cs) → RVs w L σ xs vs → (∀ v ∈ vs, v.oneCell' = true) → (∀ c ∈ xs, sc c = true) →
    cs.length ≤ off + i → off + i + vs.length ≤ (L id).cap * sz →
    ∃ w', (storeCells ⟨(L id).a.block, (L id).a.off + off, none⟩ vs i).run P w = .ok () w' ∧ zdP L σ w L σ w' ∧ Sim L σ w' ∧
      (∀ k v, vs[k]? = some v → w'.cell? ⟨(L id).a.block, (L id).a.off + off + i + k, none⟩ = some v) ∧
      (∀ p, (p.block ≠ (L id).a.block ∨ p.off < (L id).a.off + off + i ∨ p.spot ≠ none) → w'.cell? p = w.cell? p)
  | [], [], off, i, w, S, _, _, _, _, _, _ => ⟨w, by simp [storeCells], zdP.refl _ _ _, S, by simp, fun _ _ => rfl⟩
  | [], v :: vs, _, _, _, _, _, hv, _, _, _, _ => by have := hv.1; simp at this
  | x :: xs, [], _, _, _, _, _, hv, _, _, _, _ => by have := hv.1; simp at this
  | x :: xs, v :: vs, off, i, w, S, hx, hv, hone, hsc, hlo, hhi => by
    simp only [List.length_cons] at hhi
    have hxv := hv.2 0 x v rfl rfl
    obtain ⟨s1, S1⟩ := row_store S hx (j := off + i) (by omega) hxv (hsc x (by simp))
    have e : σ.set id (.row g sz (cs.set (off + i) x)) = σ := by
      have e0 : cs.set (off + i) x = cs := List.set_eq_of_length_le (by omega)
      rw [e0]
      obtain ⟨hl, hh⟩ := List.getElem?_eq_some_iff.1 hx
      rw [← hh]; exact List.set_getElem_self hl
    rw [e, ← Nat.add_assoc] at s1 S1
    obtain ⟨_, _, _, _, h3, _⟩ := S.obj id _ hx
    obtain ⟨⟨u, hu⟩, hf⟩ := h3 ((L id).a.off + off + i) (by omega) (by omega)
    obtain ⟨w', r, s2, S2, hc, hk⟩ := zqW id g sz cs xs vs off (i + 1) _ S1 hx ⟨by have := hv.1; simpa using this, fun j b z hb hz => s1.rv (hv.2 (j + 1) b z hb hz)⟩ (fun v hv => hone v (by simp [hv])) (fun c hc => hsc c (by simp [hc])) (by omega) (by omega)
    have ho := hone v (by simp)
    have hst : (store ((Addr.mk (L id).a.block ((L id).a.off + off) none).add i) v).run P w = .ok () (w.setCell ⟨(L id).a.block, (L id).a.off + off + i, none⟩ v) := by
      rw [zcq]
      cases v <;> first | (simp [Value.oneCell'] at ho; done) | simp [store, Sem.run, hu, hf]
    refine ⟨w', by rw [storeCells]; simp [hst, r], s1.trans s2, S2, fun k x hk' => ?_, fun p hp => ?_⟩
    · cases k with
      | zero =>
        simp at hk'; subst hk'
        rw [hk _ (.inr (.inl (by dsimp only; omega)))]
        exact World.cell?_setCell_same w _ _ hu
      | succ k =>
        simp at hk'
        have := hc k x hk'
        rw [show (L id).a.off + off + i + (k + 1) = (L id).a.off + off + (i + 1) + k by omega]
        exact this
    · rw [hk p (Or.imp_right (Or.imp_left fun h => by omega) hp)]
      refine World.cell?_setCell_other w _ _ v fun e => ?_
      subst e
      rcases hp with h | h | h
      · exact h rfl
      · dsimp only at h; omega
      · exact h rfl

def RoomRun (P : Program) (w : World) (t u ty : TypeId) (vy : Value) (sz m : Nat) (news : List Value) : Prop :=
  ∀ (base : Option Addr) (n cap : Nat), n + m ≤ cap → (Builtin.append_ #[t, u] ty #[.slice base n cap, vy]).run P w =
      ((match base with | some a => storeCells (a.add (n * sz)) news | none => pure ()).run P w).andThen fun _ w' => .ok (.slice base (n + m) cap) w'
def GrowRun (P : Program) (w : World) (t u ty e : TypeId) (z vy : Value) (sz bytes m : Nat) (news : List Value) : Prop :=
  ∀ (base : Option Addr) (n cap : Nat) (olds : List Value), zsJ P w sz (.slice base n cap) n olds → ¬ n + m ≤ cap → (n + m) * bytes ≤ 140737488355328 → (Builtin.append_ #[t, u] ty #[.slice base n cap, vy]).run P w =
      .ok (.slice (some ⟨w.heap.size, 0, none⟩) (n + m) (grownCap w (n + m) cap e)) (w.drew.alloc (.cells (olds.toArray ++ news.toArray ++ Builtin.zeroCells z.cells (grownCap w (n + m) cap e - (n + m))) e))

theorem zsf (S : Sim L σ w) {t u e : TypeId} {x : AV} {vx vy : Value} {sz bytes m : Nat} {ys : List AV} {z : Value} {ty : TypeId} {news : List Value}
    (hsz : 0 < sz) (hzs : z.cells.size = sz) (hR : RoomRun P w t u ty vy sz m news) (hG : GrowRun P w t u ty e z vy sz bytes m news)
    (hvx : RV w L σ x vx) (hnw : news.length = m * sz) (hnrv : RVs w L σ ys news) (hnone : ∀ u ∈ news, u.oneCell' = true) (hysc : ∀ c ∈ ys, sc c = true) (h : zqz sz bytes x m ys σ K) :
    ∃ r v L' σ' w', (Builtin.append_ #[t, u] ty #[vx, vy]).run P w = .ok v w' ∧ zdP L σ w L' σ' w' ∧ Sim L' σ' w' ∧ RV w' L' σ' r v ∧ K r σ' := by
  have hyl : ys.length = m * sz := by rw [← hnw]; exact hnrv.1.symm
  have size_new : ∀ {olds : List Value} {n cap : Nat}, olds.length = n * sz →
      (olds.toArray ++ news.toArray ++ Builtin.zeroCells z.cells (grownCap w (n + m) cap e - (n + m))).size = grownCap w (n + m) cap e * sz := fun {olds n cap} hol => by
    have hge := grownCap_ge w (n + m) cap e
    simp only [Array.size_append, List.size_toArray, size_zeroCells, hzs, hol, hnw, ← Nat.add_mul]
    congr 1; omega
  unfold zqz at h
  split at h
  · -- a slice without places
    obtain ⟨hfit, hK⟩ := h
    generalize hes : ([] : List (List D)) = es0 at hvx
    cases hvx with | exact _ b hrd =>
    subst hes
    simp only [List.length_nil] at hrd ⊢
    rcases Nat.eq_zero_or_pos m with hm | hm
    · subst hm
      have hys0 : ys = [] := List.eq_nil_of_length_eq_zero (by rw [hyl]; simp)
      have hn0 : news = [] := List.eq_nil_of_length_eq_zero (by rw [hnw]; simp)
      subst hys0
      subst hn0
      have hrun := hR b 0 0 (by omega)
      have hrun' : (Builtin.append_ #[t, u] ty #[.slice b 0 0, vy]).run P w = .ok (.slice b 0 0) w := by
        rw [hrun]
        cases b <;> simp [storeCells]
      let l : Loc := { a := ⟨0, 0, none⟩, cap := 0 }
      have hno : ∀ p q, ¬ zfC l (.row 0 sz []) p q := fun p q hf => by
        obtain ⟨_, h1, h2⟩ := hf
        dsimp only [l] at h1 h2; omega
      have get : ∀ {id ob}, (σ ++ [zd.row 0 sz []])[id]? = some ob → (id < σ.length ∧ σ[id]? = some ob) ∨ (id = σ.length ∧ ob = .row 0 sz []) := fun {id ob} hy => by
        rcases Nat.lt_or_ge id σ.length with hl | hl
        · rw [List.getElem?_append_left hl] at hy; exact .inl ⟨hl, hy⟩
        · rw [List.getElem?_append_right hl] at hy
          have e : id = σ.length := by have := zh hy; simp at this; omega
          subst e; simp at hy; exact .inr ⟨rfl, hy.symm⟩
      have st : zdP L σ w (zjK L σ.length l) (σ ++ [.row 0 sz []]) w :=
        ⟨rfl, rfl, rfl, Nat.le_refl _, fun _ _ _ => rfl, fun _ _ _ _ => rfl, fun _ _ _ _ => rfl, fun p q _ hf => by
          obtain ⟨id, ob, ho, hf⟩ := hf
          rcases get ho with ⟨hl, ho⟩ | ⟨rfl, rfl⟩
          · rw [zbP (by omega)] at hf; exact ⟨id, ob, ho, hf⟩
          · rw [zaj] at hf; exact absurd hf (hno _ _), by simp, fun id ob hob => by
            have hl := zh hob
            exact .stay (by rw [List.getElem?_append_left hl]; exact hob) (zbP (by omega))⟩
      have S' : Sim (zjK L σ.length l) (σ ++ [.row 0 sz []]) w := by
        refine ⟨fun id ob hob => ?_, fun i j p q b' o' hij hp hq hfp hfq => ?_⟩
        · rcases get hob with ⟨hl, hob⟩ | ⟨rfl, rfl⟩
          · rw [zbP (by omega)]
            exact (S.obj id ob hob).keep st (fun _ _ _ => ⟨rfl, rfl⟩) (fun _ _ => rfl)
          · rw [zaj]
            refine ⟨hsz, ⟨0, by simp, by simp⟩, by simp, fun h => by simp [l] at h, fun o h1 h2 => ?_, by simp⟩
            dsimp only [l] at h1 h2; omega
        · rcases get hp with ⟨hl, hp1⟩ | ⟨e1, e2⟩
          · rcases get hq with ⟨hl', hq1⟩ | ⟨e1, e2⟩
            · rw [zbP (by omega)] at hfp hfq
              exact S.apart i j p q b' o' hij hp1 hq1 hfp hfq
            · rw [e1, zaj, e2] at hfq
              exact hno _ _ hfq
          · rw [e1, zaj, e2] at hfp
            exact hno _ _ hfp
      refine ⟨.rsl σ.length 0 sz 0 0, _, _, _, w, hrun', st, S', ?_, hK⟩
      refine .rsl σ.length 0 sz 0 0 b 0 ⟨_, List.getElem?_concat_length, .inl rfl⟩ (fun _ _ _ _ => Nat.zero_le _) (Nat.le_refl _) (Nat.le_refl _) (fun _ => rfl) (fun h => absurd h (Nat.lt_irrefl _)) (fun sz' cs' e => ?_)
      rw [List.getElem?_concat_length] at e
      cases e
      rw [zaj]
      exact ⟨rfl, by simp, Nat.zero_le _, rfl, fun h => absurd h (by simp [l])⟩
    · have holds : zsJ P w sz (.slice b 0 0) 0 [] := ⟨by simp, fun w' _ => by cases b <;> simp [Builtin.lenOf, Builtin.firstCells, loadCells, loadCellsFrom]⟩
      have hrun := hG b 0 0 [] holds (by omega) (by simpa using hfit)
      have hsize := size_new (olds := []) (n := 0) (cap := 0) (by simp)
      have hge := grownCap_ge w (0 + m) 0 e
      generalize hgc : grownCap w (0 + m) 0 e = gc at *
      generalize hcs : ([] : List Value).toArray ++ news.toArray ++ Builtin.zeroCells z.cells (gc - (0 + m)) = cells at *
      obtain ⟨S1, s1⟩ := S.drew (w.drawn + 1)
      have hpre : cells.toList.take ys.length = news := by
        rw [← hcs, hyl, ← hnw]
        simp
      obtain ⟨st, S', hr⟩ := new_row (w := w.drew) S1 (cells := cells) (cs := ys) (by rw [hpre]; exact ⟨hnrv.1, fun i c v hc hv => s1.rv (hnrv.2 i c v hc hv)⟩) e sz m gc hsz hyl (by omega) hsize hysc
      refine ⟨.rsl σ.length 0 sz 0 m, _, _, _, _, hrun, s1.trans st, S', ?_, hK⟩
      rw [Nat.zero_add]
      exact hr
  · -- a row of the call's own
    rename_i t g s lo hi0
    split at h
    · rename_i g' s' cs hx
      obtain ⟨rfl, rfl, rfl, hlen, hfit, hK⟩ := h
      obtain ⟨b, c, rfl, hrow, hlh, hle, hbn, hbs, hgen, hcur⟩ := hvx.rsl_inv
      obtain ⟨_, q2, q3, q4, q5⟩ := hcur s cs hx
      have ho := S.obj t _ hx
      obtain ⟨o0, ⟨n0, o1, o1'⟩, osc, olt, oall, ocells⟩ := ho
      have hdl : (cs.drop (lo * s)).length = (hi0 - lo) * s := by rw [List.length_drop, hlen, Nat.sub_mul]
      have hnl : (cs.drop (lo * s) ++ ys).length = (hi0 - lo + m) * s := by rw [List.length_append, hdl, hyl, Nat.add_mul]
      have hscn : ∀ c ∈ cs.drop (lo * s) ++ ys, sc c = true := fun c hc => (List.mem_append.1 hc).elim (fun h => osc c (List.mem_of_mem_drop h)) (hysc c)
      by_cases hroom : hi0 - lo + m ≤ c
      · have hrun := hR b (hi0 - lo) c hroom
        -- the spare cells are written
        have hst : ∃ w1, ((match b with | some a => storeCells (a.add ((hi0 - lo) * s)) news | none => pure ()).run P w) = .ok () w1 ∧ zdP L σ w L σ w1 ∧ Sim L σ w1 ∧
            (∀ k v, news[k]? = some v → w1.cell? ⟨(L t).a.block, (L t).a.off + hi0 * s + k, none⟩ = some v) ∧ (∀ p, p.off < (L t).a.off + hi0 * s → w1.cell? p = w.cell? p) := by
          rcases Nat.eq_zero_or_pos m with hm | hm
          · have hn0 : news = [] := List.eq_nil_of_length_eq_zero (by rw [hnw, hm]; simp)
            subst hn0
            exact ⟨w, by cases b <;> simp [storeCells], zdP.refl _ _ _, S, by simp, fun _ _ => rfl⟩
          · have hlt : lo < (L t).cap := by omega
            rw [q5 hlt]
            have hmul : (hi0 + m) * s ≤ (L t).cap * s := Nat.mul_le_mul_right _ (by omega)
            rw [Nat.add_mul] at hmul
            obtain ⟨w1, r, s1, S1, h4, h5⟩ := zqW (P := P) t g' s cs ys news (hi0 * s) 0 w S hx hnrv hnone hysc (by omega) (by rw [hnw]; omega)
            refine ⟨w1, ?_, s1, S1, fun k v hk => h4 k v hk, fun p hp => h5 p (.inr (.inl hp))⟩
            have e1 : (Addr.mk (L t).a.block ((L t).a.off + lo * s) none).add ((hi0 - lo) * s) = ⟨(L t).a.block, (L t).a.off + hi0 * s, none⟩ := by
              rw [zcq, Nat.sub_mul]
              have : lo * s ≤ hi0 * s := Nat.mul_le_mul_right _ hlh
              congr 1; omega
            show (storeCells ((Addr.mk (L t).a.block ((L t).a.off + lo * s) none).add ((hi0 - lo) * s)) news).run P w = _
            rw [e1]; exact r
        obtain ⟨w1, r1, s1, S1, hnew, hold⟩ := hst
        let l : Loc := { a := ⟨(L t).a.block, (L t).a.off + lo * s, none⟩, cap := (L t).cap - lo }
        have hmulc : lo * s + ((L t).cap - lo) * s = (L t).cap * s := by rw [← Nat.add_mul]; congr 1; omega
        obtain ⟨s2, S2⟩ := zuA S1 hx l (cs.drop (lo * s) ++ ys) (.inl rfl) (fun b' o' hf => .inl ⟨hf.1, by have := hf.2.1; dsimp only [l] at this; omega, by have := hf.2.2; dsimp only [l] at this; omega⟩) (fun htr => by
          obtain ⟨p0, _, _, plt, pall, pcells⟩ := S1.obj t _ hx
          refine ⟨hsz, ⟨hi0 - lo + m, hnl, by dsimp only [l]; omega⟩, hscn, fun h => by dsimp only [l] at h ⊢; exact plt (by omega), fun o' h1 h2 => ?_, fun j d hj => ?_⟩
          · dsimp only [l] at h1 h2 ⊢
            exact pall o' (by omega) (by omega)
          · dsimp only [l]
            rcases Nat.lt_or_ge j (cs.drop (lo * s)).length with hlt | hge
            · rw [List.getElem?_append_left hlt, List.getElem?_drop] at hj
              obtain ⟨v, h1, h2⟩ := pcells _ d hj
              exact ⟨v, by rw [Nat.add_assoc]; exact h1, htr _ _ h2⟩
            · rw [List.getElem?_append_right hge] at hj
              have hlt := zh hj
              obtain ⟨nv, hnv⟩ : ∃ nv, news[j - (cs.drop (lo * s)).length]? = some nv := ⟨_, List.getElem?_eq_getElem (by rw [hnw]; omega)⟩
              refine ⟨_, ?_, htr _ _ (s1.rv (hnrv.2 _ d _ hj hnv))⟩
              have := hnew _ _ hnv
              rw [hdl] at this
              have e2 : lo * s ≤ hi0 * s := Nat.mul_le_mul_right _ hlh
              rw [← this]
              congr 1
              rw [Nat.sub_mul]
              rw [hdl, Nat.sub_mul] at hge
              congr 1; omega)
        refine ⟨.rsl t (g' + 1) s 0 (hi0 - lo + m), .slice b (hi0 - lo + m) c, _, _, w1, ?_, s1.trans s2, S2, ?_, hK⟩
        · exact hrun.trans (congrArg (Result.andThen · _) r1)
        · have hget : (σ.set t (.row (g' + 1) s (cs.drop (lo * s) ++ ys)))[t]? = some (.row (g' + 1) s (cs.drop (lo * s) ++ ys)) := by simp [zh hx]
          refine .rsl t (g' + 1) s 0 (hi0 - lo + m) b c ⟨_, hget, .inl rfl⟩ (fun g2 sz2 cs2 e => by rw [hget] at e; cases e; omega) (Nat.zero_le _) (by omega) hbn hbs (fun sz' cs' e => ?_)
          rw [hget] at e
          cases e
          rw [zaj]
          refine ⟨rfl, by rw [hnl]; omega, by dsimp only [l]; omega, by dsimp only [l]; omega, fun hlt => ?_⟩
          dsimp only [l] at hlt ⊢
          rw [q5 (by omega)]; simp
      · obtain ⟨olds, holds, horv, hoone⟩ := row_src (P := P) S hvx hx
        have hrun := hG b (hi0 - lo) c olds holds hroom hfit
        have hsize := size_new (olds := olds) (n := hi0 - lo) (cap := c) holds.1
        have hge := grownCap_ge w (hi0 - lo + m) c e
        generalize hgc : grownCap w (hi0 - lo + m) c e = gc at *
        generalize hcs : olds.toArray ++ news.toArray ++ Builtin.zeroCells z.cells (gc - (hi0 - lo + m)) = cells at *
        obtain ⟨S1, s1⟩ := S.drew (w.drawn + 1)
        let l : Loc := { a := ⟨w.heap.size, 0, none⟩, cap := gc }
        have hcell : ∀ j, (w.drew.alloc (.cells cells e)).cell? ⟨w.heap.size, j, none⟩ = cells[j]? := fun j => cell?_alloc_any w.drew cells e (0, 0) j
        have hdrop : (cs.drop (lo * s)).take ((hi0 - lo) * s) = cs.drop (lo * s) := List.take_of_length_le (by omega)
        rw [hdrop] at horv
        obtain ⟨s2, S2⟩ := zuA (w := w.drew) S1 hx l (cs.drop (lo * s) ++ ys) (.inr ⟨.cells cells e, rfl⟩) (fun b' o' hf => .inr hf.1) (fun htr => by
          refine ⟨hsz, ⟨hi0 - lo + m, hnl, hge⟩, hscn, fun _ => by simp [l], fun o' h1 h2 => ⟨?_, World.frozen?_alloc_at cells e _ o' rfl⟩, fun j d hj => ?_⟩
          · dsimp only [l] at h1 h2 ⊢
            have hlt : o' < cells.size := by omega
            exact ⟨cells[o'], by rw [hcell]; exact Array.getElem?_eq_getElem hlt⟩
          · dsimp only [l]
            rw [Nat.zero_add, hcell]
            rcases Nat.lt_or_ge j (cs.drop (lo * s)).length with hlt | hge'
            · rw [List.getElem?_append_left hlt] at hj
              have hov : olds[j]? = some (olds[j]'(by rw [holds.1]; omega)) := List.getElem?_eq_getElem _
              refine ⟨_, ?_, htr _ _ (s1.rv (horv.2 j d _ hj hov))⟩
              rw [← hcs, Array.getElem?_append_left (by simp; rw [holds.1, hnw]; omega), Array.getElem?_append_left (by simp; rw [holds.1]; omega)]
              simpa using hov
            · rw [List.getElem?_append_right hge'] at hj
              have hlt := zh hj
              obtain ⟨nv, hnv⟩ : ∃ nv, news[j - (cs.drop (lo * s)).length]? = some nv := ⟨_, List.getElem?_eq_getElem (by rw [hnw]; omega)⟩
              refine ⟨_, ?_, htr _ _ (s1.rv (hnrv.2 _ d _ hj hnv))⟩
              rw [← hcs, Array.getElem?_append_left (by simp; rw [holds.1, hnw]; omega), Array.getElem?_append_right (by simp; rw [holds.1]; omega)]
              rw [hdl] at hnv
              have e3 : j - olds.toArray.size = j - (hi0 - lo) * s := by simp [holds.1]
              rw [e3, List.getElem?_toArray]
              exact hnv)
        refine ⟨.rsl t (g' + 1) s 0 (hi0 - lo + m), _, _, _, _, hrun, s1.trans s2, S2, ?_, hK⟩
        have hget : (σ.set t (.row (g' + 1) s (cs.drop (lo * s) ++ ys)))[t]? = some (.row (g' + 1) s (cs.drop (lo * s) ++ ys)) := by simp [zh hx]
        refine .rsl t (g' + 1) s 0 (hi0 - lo + m) _ gc ⟨_, hget, .inl rfl⟩ (fun g2 sz2 cs2 e => by rw [hget] at e; cases e; omega) (Nat.zero_le _) (by omega) (fun e => by cases e) (fun _ => ⟨_, _, rfl⟩) (fun sz' cs' e => ?_)
        rw [hget] at e
        cases e
        rw [zaj]
        exact ⟨rfl, by rw [hnl]; omega, by dsimp only [l]; omega, by dsimp only [l]; omega, fun _ => by simp [l]⟩
    · exact h.elim
  · exact h.elim

theorem snd_appendR (S : Sim L σ w) (F : FR w L σ fr a.tmps) {c : Call} {t u e : TypeId} {x y : Operand} {x' y' : Opd} {sz bytes : Nat} {zz : List AV} {inf : TypeInfo} (ho : o.op = .call c) (hcal : c.callee = .builtin .append) (hat : c.argTypes.toList = [t, u]) (hargs : c.args.toList = [x, y])
    (ht : P.underlying t = some (.slice e)) (hu : (∃ e', P.underlying u = some (.slice e')) ∨ P.underlying u = some .string) (hs : sizeOf? P e = some sz) (hi : P.info? e = some inf) (hz : zpW P e = some zz) (hsz : 0 < sz) (hzl : zz.length = sz) (hb0 : 0 < inf.bytes) (hb : inf.bytes = bytes)
    (hx : opd x = some x') (hy : opd y = some y') (h : zba P (.append true sz bytes zz x' y') fr σ K) : zaP P o a L σ w K := by
  have hargs' : c.args = #[x, y] := by apply Array.ext'; simpa using hargs
  have hat' : c.argTypes = #[t, u] := by apply Array.ext'; simpa using hat
  have hvx := zaf F hx
  have hvy := zaf F hy
  have fin : ∀ {v w'}, (Builtin.append_ #[t, u] o.type #[a.eval x, a.eval y]).run P w = .ok v w' → (execOp a.eval o).run P w = .ok (.value v) w' := fun {v w'} h1 => by
    simp [execOp, ho, resolve, hcal, hargs', hat', invoke, builtin, h1]
  have key : ∀ {m ys}, SrcA P w L σ sz (a.eval y) m ys → zqz sz bytes (ev fr x') m ys σ K → zaP P o a L σ w K := fun {m ys} h1 h2 => by
    have hisz : inf.size = sz := by simp only [sizeOf?, hi, Option.map_some, Option.some.injEq] at hs; exact hs
    obtain ⟨inf', z, hi', hz1, hz2⟩ := zfP hz
    rw [hi] at hi'; cases hi'
    have hzs : z.cells.size = sz := by have := (mapM_some hz2).1; simp at this; omega
    obtain ⟨news, hnews, hnrv, hnone, hysc⟩ := h1
    obtain ⟨r, v, L', σ', w', hrun, st, S', hr, hK⟩ := zsf (P := P) (ty := o.type) (t := t) (u := u) (e := e) (vy := a.eval y) (z := z) S hsz hzs (fun base n cap hroom => run_append_room' ht hu hs hnews hroom) (fun base n cap olds holds hroom hfit => run_append_grow' ht hu hi hz1 hisz hb (hb ▸ hb0) hnews holds hroom hfit) hvx hnews.1 hnrv hnone hysc h2
    exact ⟨r, v, L', σ', w', .inl (fin hrun), st, S', hr, hK⟩
  simp only [zba, zfA] at h
  split at h
  · rename_i tt g s lo hi0 hid
    rw [hid] at hvy
    split at h
    · rename_i g' s' cs hcs
      obtain ⟨rfl, rfl, rfl, h⟩ := h
      obtain ⟨news, h1, h2, h3⟩ := row_src (P := P) S hvy hcs
      obtain ⟨_, _, osc, _, _, _⟩ := S.obj tt _ hcs
      exact key ⟨news, h1, h2, h3, fun c hc => osc c (List.mem_of_mem_drop (List.mem_of_mem_take hc))⟩ h
    · exact h.elim
  · split at h
    · rename_i ys hys
      obtain ⟨hysz, h⟩ := h
      exact key (srcA_rd hysz (ztm (P := P) S hvy hys hysz)) h
    · exact h.elim

theorem rep_sc {z : Value} {zz : List AV} (h : z.cells.toList.mapM litS = some zz) (m : Nat) : ∀ c ∈ rep zz m, sc c = true := by
  have h1 : ∀ c ∈ zz, sc c = true := fun c hc => by
    obtain ⟨g1, g2⟩ := mapM_some h
    obtain ⟨i, hi⟩ := List.mem_iff_getElem?.1 hc
    have hlt := zh hi
    have hv : z.cells.toList[i]? = some (z.cells.toList[i]'(by omega)) := List.getElem?_eq_getElem _
    have := g2 i _ c hv hi
    unfold litS at this
    split at this <;> first | (cases this; rfl) | (cases this; done)
  induction m with
  | zero => intro c hc; cases hc
  | succ m ih => intro c hc; simp only [rep] at hc; exact (List.mem_append.1 hc).elim (h1 c) (ih c)

theorem znS {z : Value} {zz : List AV} (hr : RVs w L σ zz z.cells.toList) {sz : Nat} (hsz : 0 < sz) (hl : zz.length = sz) (m : Nat) : RVs w L σ (rep zz m) (Builtin.zeroCells z.cells m).toList := by
  have hzs : z.cells.size = sz := by have := hr.1; simp at this; omega
  refine ⟨by simp [ziO, Builtin.zeroCells, hl, hzs], fun i c v hc hv => ?_⟩
  have hlt : i < m * sz := by have := zh hc; rw [ziO, hl] at this; exact this
  rw [rep_get zz sz hl hsz m i hlt] at hc
  simp [Builtin.zeroCells, hzs, hlt] at hv
  have hm : i % sz < sz := Nat.mod_lt _ hsz
  refine hr.2 (i % sz) c v hc ?_
  rw [← hv]
  have : i % sz < z.cells.size := by omega
  simp [this]

set_option maxRecDepth 100000 in
theorem zuy {t u e ty : TypeId} {k0 : IntKind} {inf : TypeInfo} {z : Value} {sz bytes m : Nat} {base : Option Addr} {n cap : Nat} (ht : P.underlying t = some (.slice e)) (hu : P.underlying u = some (.int k0)) (hs : sizeOf? P e = some sz) (hi : P.info? e = some inf) (hz : inf.zero = some z)(hb : inf.bytes = bytes)
   (hwrap : IntKind.i64.wrap (m : Int) = m) (hfit : m * bytes ≤ 140737488355328) (hroom : n + m ≤ cap) (hzs : z.cells.size = sz) (hsz : 0 < sz) :
  (Builtin.append_ #[t, u] ty #[.slice base n cap, .int .i64 m]).run P w =
      ((match base with | some a => storeCells (a.add (n * sz)) (Builtin.zeroCells z.cells m).toList | none => pure ()).run P w).andThen fun _ w' => .ok (.slice base (n + m) cap) w' := by
  have h48 : ¬ (281474976710656 < (m : Int) * bytes) := by
    have : ((m * bytes : Nat) : Int) ≤ (140737488355328 : Nat) := Int.ofNat_le.2 hfit
    rw [Int.natCast_mul] at this; omega
  have h0 : ¬ ((m : Int) < 0) := by omega
  have hzv : ∀ w', (zeroValue e).run P w' = .ok z w' := fun w' => by simp [zeroValue, typeInfo, program, Sem.run, hi, hz]
  have hti : ∀ w', (typeInfo e).run P w' = .ok inf w' := fun w' => by simp [typeInfo, program, Sem.run, hi]
  have hai : ∀ w', (asInt (.int .i64 m)).run P w' = .ok (m : Int) w' := fun w' => by simp [asInt, asIntOf]
  by_cases hm : m * sz = 0
  · have : m = 0 := by rcases Nat.mul_eq_zero.1 hm with h | h <;> omega
    subst this
    simp at hwrap hai hroom
    cases base <;> simp [Builtin.append_, run_underlying ht, run_underlying hu, zbZ hs, hai, hwrap, hti, hb, hroom, Builtin.zeroCells, storeCells]
  · cases base <;> simp [Builtin.append_, run_underlying ht, run_underlying hu, zbZ hs, hai, hwrap, hti, hb, hroom, h48, h0, hm, hzv]
set_option maxRecDepth 100000 in
theorem zuz {t u e ty : TypeId} {k0 : IntKind} {inf : TypeInfo} {z : Value} {sz bytes m : Nat} {base : Option Addr} {n cap : Nat} {olds : List Value} (ht : P.underlying t = some (.slice e)) (hu : P.underlying u = some (.int k0)) (hs : sizeOf? P e = some sz) (hi : P.info? e = some inf) (hz : inf.zero = some z)(hb : inf.bytes = bytes)
   (hwrap : IntKind.i64.wrap (m : Int) = m) (hfit : (n + m) * bytes ≤ 140737488355328) (hb0 : 0 < bytes) (hroom : ¬ n + m ≤ cap) (hzs : z.cells.size = sz) (hsz : 0 < sz) (ho : zsJ P w sz (.slice base n cap) n olds) :
  (Builtin.append_ #[t, u] ty #[.slice base n cap, .int .i64 m]).run P w =
      .ok (.slice (some ⟨w.heap.size, 0, none⟩) (n + m) (grownCap w (n + m) cap e)) (w.drew.alloc (.cells (olds.toArray ++ (Builtin.zeroCells z.cells m).toList.toArray ++ Builtin.zeroCells z.cells (grownCap w (n + m) cap e - (n + m))) e)) := by
  have hmul : m * bytes ≤ (n + m) * bytes := Nat.mul_le_mul_right _ (by omega)
  have hm1 : n + m ≤ (n + m) * bytes := by
    have : (n + m) * 1 ≤ (n + m) * bytes := Nat.mul_le_mul_left _ (by omega)
    omega
  have h48 : ¬ (281474976710656 < (m : Int) * bytes) := by
    have : ((m * bytes : Nat) : Int) ≤ (140737488355328 : Nat) := Int.ofNat_le.2 (Nat.le_trans hmul hfit)
    rw [Int.natCast_mul] at this; omega
  have h0 : ¬ ((m : Int) < 0) := by omega
  have hzv : ∀ w', (zeroValue e).run P w' = .ok z w' := fun w' => by simp [zeroValue, typeInfo, program, Sem.run, hi, hz]
  have hti : ∀ w', (typeInfo e).run P w' = .ok inf w' := fun w' => by simp [typeInfo, program, Sem.run, hi]
  have hai : ∀ w', (asInt (.int .i64 m)).run P w' = .ok (m : Int) w' := fun w' => by simp [asInt, asIntOf]
  obtain ⟨h3, h4⟩ := ho.2 w.drew rfl
  have hg := growslice_fits (need := n + m) (old := cap) (bytes := bytes) (by omega) hfit
  have hg' : ¬ (281474976710656 < Builtin.nextslicecap (n + m) cap * bytes) := by omega
  have hmax : ¬ (9223372036854775807 < (n : Int) + m) := by omega
  by_cases hm : m * sz = 0
  · have : m = 0 := by rcases Nat.mul_eq_zero.1 hm with h | h <;> omega
    subst this
    have hai0 : ∀ w', (asInt (.int .i64 0)).run P w' = .ok (0 : Int) w' := fun w' => by simp [asInt, asIntOf]
    have hw0 : IntKind.i64.wrap 0 = 0 := hwrap
    have hr0 : ¬ n ≤ cap := by omega
    have hx0 : ¬ 9223372036854775807 < (n : Int) := by omega
    have hg0 : ¬ 281474976710656 < Builtin.nextslicecap n cap * bytes := hg'
    simp [Builtin.append_, run_underlying ht, run_underlying hu, zbZ hs, hai0, hw0, hti, hb, hr0, hg0, hx0, Question.forced, h4, newRow, grownCap, hzv, Builtin.zeroCells]
  · simp [Builtin.append_, run_underlying ht, run_underlying hu, zbZ hs, hai, hwrap, hti, hb, hroom, h48, h0, hm, hzv, hg', hmax, Question.forced, h4, newRow, grownCap]

theorem snd_cap (S : Sim L σ w) (F : FR w L σ fr a.tmps) {c : Call} {t e : TypeId} {x : Operand} {x' : Opd} (ho : o.op = .call c) (hcal : c.callee = .builtin .cap) (hat : c.argTypes[0]? = some t) (hargs : c.args.toList = [x]) (ht : P.underlying t = some (.slice e)) (hx : opd x = some x')
    (h : zba P (.cap x') fr σ K) : zaP P o a L σ w K := by
  have hargs' : c.args = #[x] := by apply Array.ext'; simpa using hargs
  have hv := zaf F hx
  simp only [zba, capC] at h
  split at h
  · rename_i es hid
    rw [hid] at hv
    obtain ⟨b, hX, _⟩ := zkG hv
    refine .same S (r := .d (.int .i64 es.length)) (v := .int .i64 es.length) ?_ (.d _ _ (.int _ _)) h
    simp [execOp, ho, resolve, hcal, hargs', invoke, builtin, Builtin.cap_, hat, hX, run_underlying ht, goInt]
  · exact h.elim

theorem snd_appz (S : Sim L σ w) (F : FR w L σ fr a.tmps) {c : Call} {t u e : TypeId} {k0 : IntKind} {x y : Operand} {x' y' : Opd} {sz bytes : Nat} {zz : List AV} {inf : TypeInfo} (ho : o.op = .call c) (hcal : c.callee = .builtin .append) (hat : c.argTypes.toList = [t, u]) (hargs : c.args.toList = [x, y])
    (ht : P.underlying t = some (.slice e)) (hu : P.underlying u = some (.int k0)) (hs : sizeOf? P e = some sz) (hi : P.info? e = some inf) (hz : zpW P e = some zz) (hsz : 0 < sz) (hzl : zz.length = sz) (hb0 : 0 < inf.bytes) (hb : inf.bytes = bytes)
    (hx : opd x = some x') (hy : opd y = some y') (h : zba P (.appz sz bytes zz x' y') fr σ K) : zaP P o a L σ w K := by
  have hargs' : c.args = #[x, y] := by apply Array.ext'; simpa using hargs
  have hat' : c.argTypes = #[t, u] := by apply Array.ext'; simpa using hat
  have hvx := zaf F hx
  have hvy := zaf F hy
  simp only [zba, appzC] at h
  split at h
  · rename_i k hid
    rw [hid] at hvy
    have hY := hvy.int_inv
    obtain ⟨hk0, h⟩ := h
    have hisz : inf.size = sz := by simp only [sizeOf?, hi, Option.map_some, Option.some.injEq] at hs; exact hs
    obtain ⟨inf', z, hi', hz1, hz2⟩ := zfP hz
    rw [hi] at hi'; cases hi'
    have hzs : z.cells.size = sz := by have := (mapM_some hz2).1; simp at this; omega
    have hzrv := zoQ hz2 (w := w) (L := L) (σ := σ)
    obtain ⟨m, rfl⟩ : ∃ m : Nat, k = m := ⟨k.toNat, by omega⟩
    simp only [Int.toNat_natCast] at h
    have hfit : m * bytes ≤ 140737488355328 := by
      unfold zqz at h
      split at h
      · exact h.1
      · split at h
        · obtain ⟨_, _, _, _, hf, _⟩ := h
          exact Nat.le_trans (Nat.mul_le_mul_right _ (by omega)) hf
        · exact h.elim
      · exact h.elim
    have hm48 : m ≤ 140737488355328 := by
      have : m * 1 ≤ m * bytes := Nat.mul_le_mul_left _ (by omega)
      omega
    have hwrap : IntKind.i64.wrap (m : Int) = m := by
      simp [IntKind.wrap, IntKind.bits, IntKind.signed]; omega
    have hone : ∀ u ∈ (Builtin.zeroCells z.cells m).toList, u.oneCell' = true := fun u hu => by
      have hr := znS hzrv hsz hzl m
      obtain ⟨i, hi2⟩ := List.mem_iff_getElem?.1 hu
      have hlt := zh hi2
      have hc : (rep zz m)[i]? = some ((rep zz m)[i]'(by rw [← hr.1]; exact hlt)) := List.getElem?_eq_getElem _
      exact (hr.2 i _ u hc hi2).one (rep_sc hz2 m _ (List.mem_of_getElem? hc))
    have hlen : (Builtin.zeroCells z.cells m).toList.length = m * sz := by simp [Builtin.zeroCells, hzs]
    obtain ⟨r, v, L', σ', w', hrun, st, S', hr, hK⟩ := zsf (P := P) (ty := o.type) (t := t) (u := u) (e := e) (vy := .int .i64 m) (z := z) S hsz hzs
      (fun base n cap hroom => zuy ht hu hs hi hz1 hb hwrap hfit hroom hzs hsz)
      (fun base n cap olds holds hroom hfit => zuz ht hu hs hi hz1 hb hwrap hfit (hb ▸ hb0) hroom hzs hsz holds) hvx hlen (znS hzrv hsz hzl m) hone (fun c hc => rep_sc hz2 m c hc) h
    refine ⟨r, v, L', σ', w', .inl ?_, st, S', hr, hK⟩
    simp [execOp, ho, resolve, hcal, hargs', hat', invoke, builtin, hY, hrun]
  · exact h.elim
end

end Go.AW

/- What an operation does, against the model: maps; is a slice nil. -/
set_option linter.unusedSimpArgs false
set_option linter.unusedVariables false
namespace Go.AW
open Go.MapKept
section
variable {P : Program} {o : Oper} {i : I} {fr : zao} {σ : List zd} {K : KT} {L : Nat → Loc} {w : World} {a : Act}


theorem ztH {r : Nat} {es : Array MapEntry} {clock : Nat} (hb : w.heap[r]? = some (.map es clock)) : (getObj r).run P w = .ok (.map es clock) w := by
  simp [getObj, Sem.run, hb]
theorem setmap {r : Nat} {es : Array MapEntry} {clock : Nat} (o : Obj) (hb : w.heap[r]? = some (.map es clock)) : (setObj r o).run P w = .ok () { w with heap := w.heap.setIfInBounds r o } := by
  simp [setObj, Sem.run, hb]

theorem zsb {t : TypeId} {kk : KK} (h : kkOf P t = some kk) :
    (kk = .int ∧ ∃ k, P.underlying t = some (.int k)) ∨ (kk = .str ∧ P.underlying t = some .string) ∨ (∃ n, kk = .ints n ∧ zrt P t = some n) := by
  unfold kkOf at h
  split at h
  · rename_i k hk; cases h; exact .inl ⟨rfl, k, hk⟩
  · rename_i hk; cases h; exact .inr (.inl ⟨rfl, hk⟩)
  · rename_i fs hk
    simp only [Option.map_eq_some_iff] at h
    obtain ⟨n, hn, rfl⟩ := h
    exact .inr (.inr ⟨n, rfl, hn⟩)
  · cases h

theorem znR (em : Bool) (d : Nat) {fields : List Field} {us : List Value} : ∀ (l : List Field) (s : Nat) (xs : List AV), (∀ (k : Nat) f, l[k]? = some f → f.name ≠ "_" ∧ f.offset = s + k ∧ ∃ q, P.underlying f.type = some (.int q)) →
    xs.length = l.length → RVs w L σ xs (us.drop s) → (zdB xs xs).isSome = true →
    (forIn l PUnit.unit fun f _ => (do
        if f.name ≠ "_" then Instr.checkKey em (d + 1) f.type (← part f.type us.toArray f.offset)
        pure (ForInStep.yield PUnit.unit) : Sem (ForInStep PUnit))).run P w = .ok PUnit.unit w
  | [], s, xs, _, hl, _, _ => by simp
  | f :: l, s, xs, hf, hl, hx, he => by
    cases xs with
    | nil => simp at hl
    | cons x xs =>
    obtain ⟨hn, ho, q, hq⟩ := hf 0 f rfl
    obtain ⟨r, hr⟩ := Option.isSome_iff_exists.1 he
    obtain ⟨k, a, b, r', rfl, e2, hr', _⟩ := zlt hr
    have hu : us[s]? = some (.int k a) := by
      have h1 := hx.1; simp at h1
      have h2 : us[s]? = some (us[s]'(by omega)) := List.getElem?_eq_getElem _
      have := hx.2 0 _ (us[s]'(by omega)) rfl (by simp [List.getElem?_drop, h2])
      rw [h2, this.int_inv]
    have hag : zsG P f.type = some false := by simp [zsG, hq]
    have p1 : (part f.type us.toArray f.offset).run P w = .ok (.int k a) w := by simp [part, zfQ hag, ho, hu]
    have ih := znR em d (fields := fields) (us := us) l (s + 1) xs (fun j g hj => by have := hf (j + 1) g hj; exact ⟨this.1, by rw [this.2.1]; omega, this.2.2⟩) (by simpa using hl)
      ⟨by have := hx.1; simp at this ⊢; omega, fun j c u hc hu => hx.2 (j + 1) c u hc (by rw [List.getElem?_drop] at hu ⊢; rw [← hu]; congr 1; omega)⟩ (by rw [hr']; rfl)
    have hc : (Instr.checkKey em (d + 1) f.type (.int k a)).run P w = .ok () w := by simp [Instr.checkKey, run_underlying hq]
    rw [List.forIn_cons]
    simp only [hn, ne_eq, not_false_eq_true, if_true, Sem.run_bind, p1, hc, Result.andThen_ok, Sem.run_pure]
    simpa [hn] using ih

theorem zoY {t : TypeId} {kk : KK} (h : kkOf P t = some kk) {k : AV} {v : Value} (hk : zfp kk k = true) (hv : RV w L σ k v) (em : Bool) : (Instr.checkKey em 10000 t v).run P w = .ok () w := by
  rcases zsb h with ⟨rfl, q, hq⟩ | ⟨rfl, hq⟩ | ⟨n, rfl, hn⟩
  · cases k <;> simp only [zfp, Bool.false_eq_true] at hk
    rename_i x
    cases x <;> simp only [zfp, Bool.false_eq_true] at hk
    rw [hv.int_inv]
    change (Instr.checkKey em (9999 + 1) t _).run P w = _
    unfold Instr.checkKey
    simp [run_underlying hq]
  · cases k <;> simp only [zfp, Bool.false_eq_true] at hk
    rename_i x
    cases x <;> simp only [zfp, Bool.false_eq_true] at hk
    rw [hv.str_inv]
    change (Instr.checkKey em (9999 + 1) t _).run P w = _
    unfold Instr.checkKey
    simp [run_underlying hq]
  · cases k <;> simp only [zfp, Bool.false_eq_true, Bool.and_eq_true, beq_iff_eq] at hk
    rename_i xs
    obtain ⟨us, rfl, r1⟩ := hv.agg_inv
    obtain ⟨fs, inf, hu1, hu2, hu3, hu4, hu5, hu6, hu7⟩ := zgc hn
    have := znR em 9998 (fields := fs.toList) fs.toList 0 xs (us := us) (fun k f hk => by have := hu7 k f (by simpa using hk); exact ⟨this.1, by rw [this.2.1]; omega, this.2.2⟩) (by rw [hk.1, ← hu4]; simp) (by simpa using r1) hk.2
    change (Instr.checkKey em (9999 + 1) t _).run P w = _
    unfold Instr.checkKey
    simp only [Sem.run_bind, run_underlying hu1, Result.andThen_ok]
    simp at this ⊢
    rw [this]; rfl

theorem keyEq_val {kk : KK} {x y : AV} {r : Bool} {u v : Value} (h : zho kk x y = some r) (hu : RV w L σ x u) (hv : RV w L σ y v) (hr : r = true) : u = v := by
  subst hr
  cases kk with
  | int =>
    cases x <;> try (simp [zho] at h; done)
    cases y <;> try (simp [zho] at h; done)
    rename_i x y
    cases x <;> cases y <;> simp [zho] at h
    obtain ⟨rfl, rfl⟩ := h
    rw [hu.int_inv, hv.int_inv]
  | str =>
    cases x <;> try (simp [zho] at h; done)
    cases y <;> try (simp [zho] at h; done)
    rename_i x y
    cases x <;> cases y <;> simp [zho] at h
    subst h
    rw [hu.str_inv, hv.str_inv]
  | ints n =>
    cases x <;> try (simp [zho] at h; done)
    cases y <;> try (simp [zho] at h; done)
    rename_i xs ys
    simp only [zho, Option.ite_none_right_eq_some] at h
    obtain ⟨us, rfl, r1⟩ := hu.agg_inv
    obtain ⟨vs, rfl, r2⟩ := hv.agg_inv
    obtain ⟨hln, h⟩ := h
    clear hln
    have : us = vs := by
      clear hu hv
      induction xs generalizing ys us vs with
      | nil =>
        cases ys with
        | nil => have h1 := r1.1; have h2 := r2.1; cases us <;> cases vs <;> simp at h1 h2 ⊢
        | cons y ys => simp [zdB] at h
      | cons x xs ih =>
        cases ys with
        | nil => simp [zdB] at h
        | cons y ys =>
        obtain ⟨k, a, b, r', rfl, rfl, hr', e⟩ := zlt h
        cases us with
        | nil => have := r1.1; simp at this
        | cons u us =>
        cases vs with
        | nil => have := r2.1; simp at this
        | cons v vs =>
        have e1 := (r1.2 0 _ u rfl rfl).int_inv
        have e2 := (r2.2 0 _ v rfl rfl).int_inv
        have e' : a = b ∧ r' = true := by
          have := e.symm
          simpa using this
        rw [e'.2] at hr'
        rw [e1, e2, e'.1, ih ys us ⟨by have := r1.1; simpa using this, fun i c v hc hv => r1.2 (i + 1) c v hc hv⟩ vs ⟨by have := r2.1; simpa using this, fun i c v hc hv => r2.2 (i + 1) c v hc hv⟩ hr']
    rw [this]

theorem zqS (n : Nat) : ∀ (xs : List AV) (us : List Value), RVs w L σ xs us → (zdB xs xs).isSome = true → ((us.zip us).all fun (x, y) => Instr.sameBits n x y) = true
  | [], us, h, _ => by have := h.1; cases us <;> simp_all
  | x :: xs, us, h, he => by
    obtain ⟨r, hr⟩ := Option.isSome_iff_exists.1 he
    obtain ⟨k, a, b, r', rfl, e2, hr', _⟩ := zlt hr
    cases us with
    | nil => have := h.1; simp at this
    | cons u us =>
    have e1 := (h.2 0 _ u rfl rfl).int_inv
    subst e1
    have ih := zqS n xs us ⟨by have := h.1; simpa using this, fun i c v hc hv => h.2 (i + 1) c v hc hv⟩ (by rw [hr']; rfl)
    simp only [List.zip_cons_cons, List.all_cons, ih, Bool.and_true]
    cases n <;> simp [Instr.sameBits]

theorem run_stays {kk : KK} {x : AV} {u : Value} (hx : zfp kk x = true) (hu : RV w L σ x u) : (Instr.keyThatStays u u).run P w = .ok u w := by
  have : Instr.sameBits 10000 u u = true := by
    cases kk with
    | int =>
      cases x <;> simp only [zfp, Bool.false_eq_true] at hx
      rename_i x
      cases x <;> simp only [zfp, Bool.false_eq_true] at hx
      rw [hu.int_inv]; simp [Instr.sameBits]
    | str =>
      cases x <;> simp only [zfp, Bool.false_eq_true] at hx
      rename_i x
      cases x <;> simp only [zfp, Bool.false_eq_true] at hx
      rw [hu.str_inv]
      show (_ == _) = true
      simp [bytes_beq]
    | ints n =>
      cases x <;> simp only [zfp, Bool.false_eq_true, Bool.and_eq_true] at hx
      obtain ⟨us, rfl, r1⟩ := hu.agg_inv
      have := zqS 9999 _ us r1 hx.2
      simp only [Instr.sameBits, beq_self_eq_true, Bool.true_and]
      simpa using this
  simp [Instr.keyThatStays, this]

theorem zlh {t : TypeId} {kk : KK} (h : kkOf P t = some kk) {k : AV} {v : Value} (hv : RV w L σ k v) : ∀ (es : List (AV × AV)) (ms : List MapEntry) (i : Nat) {r : Option (Nat × AV)}, ms.length = es.length →
    (∀ (j : Nat) e m, es[j]? = some e → ms[j]? = some m → RE w L σ e m) → zmv kk k es i = some r →
    match r with
    | none => (∃ d, P.underlying t = some d ∧ Instr.findNow d v ms i = some none) ∨ (zrt P t).isSome = true ∧ (Instr.findAsking t v ms i).run P w = .ok none w
    | some (p, x) => ∃ j e m, p = i + j ∧ es[j]? = some e ∧ ms[j]? = some m ∧ e.2 = x ∧ m.key = v ∧
        ((∃ d, P.underlying t = some d ∧ Instr.findNow d v ms i = some (some (p, m.val))) ∨ (zrt P t).isSome = true ∧ (Instr.findAsking t v ms i).run P w = .ok (some (p, m.val)) w)
  | [], ms, i, r, hl, _, hr => by
    have : ms = [] := by simpa using hl
    subst this
    simp only [zmv, Option.some.injEq] at hr
    subst hr
    rcases zsb h with ⟨rfl, q, hq⟩ | ⟨rfl, hq⟩ | ⟨n, rfl, hn⟩
    · exact .inl ⟨_, hq, rfl⟩
    · exact .inl ⟨_, hq, rfl⟩
    · exact .inr ⟨by rw [hn]; rfl, by simp [Instr.findAsking]⟩
  | e :: es, ms, i, r, hl, hre, hr => by
    cases ms with
    | nil => simp at hl
    | cons m ms =>
    have hk := hre 0 e m rfl rfl
    simp only [zmv] at hr
    -- one entry
    have one : ∀ {b}, zho kk k e.1 = some b → (∃ d, P.underlying t = some d ∧ Instr.sameNow d v m.key = some b) ∨ (zrt P t).isSome = true ∧ (Op.equal t v m.key).run P w = .ok b w := fun {b} hb => by
      rcases zsb h with ⟨rfl, q, hq⟩ | ⟨rfl, hq⟩ | ⟨n, rfl, hn⟩
      · left
        refine ⟨_, hq, ?_⟩
        cases k <;> try (simp [zho] at hb; done)
        generalize hE : e.1 = y at hb hk
        cases y <;> try (simp [zho] at hb; done)
        rename_i x y
        cases x <;> cases y <;> simp [zho] at hb
        obtain ⟨e1, rfl⟩ := hb
        have h1 := hk.1
        rw [hE] at h1
        rw [hv.int_inv, h1.int_inv, e1]
        simp [Instr.sameNow]
      · left
        refine ⟨_, hq, ?_⟩
        cases k <;> try (simp [zho] at hb; done)
        generalize hE : e.1 = y at hb hk
        cases y <;> try (simp [zho] at hb; done)
        rename_i x y
        cases x <;> cases y <;> simp [zho] at hb
        have h1 := hk.1
        rw [hE] at h1
        rw [hv.str_inv, h1.str_inv]
        rename_i s t
        simp only [Instr.sameNow, ← hb, Option.some.injEq]
        rw [Bool.eq_iff_iff, bytes_beq]
        simp
      · right
        refine ⟨by rw [hn]; rfl, ?_⟩
        cases k <;> try (simp [zho] at hb; done)
        generalize hE : e.1 = y at hb hk
        cases y <;> try (simp [zho] at hb; done)
        rename_i xs ys
        simp only [zho, Option.ite_none_right_eq_some] at hb
        have h1 := hk.1
        rw [hE] at h1
        obtain ⟨us, e1, r1⟩ := hv.agg_inv
        obtain ⟨vs, e2, r2⟩ := h1.agg_inv
        obtain ⟨fs, inf, hu1, hu2, hu3, hu4, hu5, hu6, hu7⟩ := zgc hn
        have hfo : P.fieldsOf t = fs := by simp [Program.fieldsOf, hu1]
        rw [e1, e2]
        show (Op.equalIn 10000 t (.agg us.toArray) (.agg vs.toArray)).run P w = .ok b w
        rw [run_equalIn_agg w 9999 t _ _ (by rw [hfo]; exact hu1) hu2, hfo]
        exact zlw 9998 fs.toList 0 xs ys us vs b (fun k f hk => by have := hu7 k f (by simpa using hk); exact ⟨this.1, by rw [this.2.1]; omega, this.2.2⟩) (by rw [hb.1, ← hu4]; simp) (by simpa using r1) (by simpa using r2) hb.2
    split at hr
    · rename_i hb
      cases hr
      refine ⟨0, e, m, rfl, rfl, rfl, rfl, (keyEq_val hb hv hk.1 rfl).symm, ?_⟩
      rcases one hb with ⟨d, hd, h1⟩ | ⟨hs, h1⟩
      · exact .inl ⟨d, hd, by simp [Instr.findNow, h1]⟩
      · exact .inr ⟨hs, by simp [Instr.findAsking, h1]⟩
    · rename_i hb
      have ih := zlh h hv es ms (i + 1) (r := r) (by simpa using hl) (fun j e m he hm => hre (j + 1) e m he hm) hr
      have h0 := one hb
      cases r with
      | none =>
        dsimp only at ih ⊢
        rcases h0 with ⟨d, hd, h1⟩ | ⟨hs, h1⟩
        · rcases ih with ⟨d', hd', h2⟩ | ⟨hs, h2⟩
          · rw [hd] at hd'; cases hd'
            exact .inl ⟨d, hd, by simp [Instr.findNow, h1, h2]⟩
          · exfalso
            rw [Option.isSome_iff_exists] at hs
            obtain ⟨n, hn⟩ := hs
            obtain ⟨fs, _, hu1, _⟩ := zgc hn
            rw [hd] at hu1; cases hu1
            simp [Instr.sameNow] at h1
        · rcases ih with ⟨d', hd', h2⟩ | ⟨hs', h2⟩
          · right
            refine ⟨hs, ?_⟩
            obtain ⟨n, hn⟩ := Option.isSome_iff_exists.1 hs
            obtain ⟨fs, _, hu1, _⟩ := zgc hn
            rw [hd'] at hu1; cases hu1
            cases ms with
            | nil => simp [Instr.findAsking, h1]
            | cons m' ms => simp [Instr.findNow, Instr.sameNow] at h2
          · exact .inr ⟨hs, by simp [Instr.findAsking, h1, h2]⟩
      | some px =>
        obtain ⟨p, x⟩ := px
        dsimp only at ih ⊢
        obtain ⟨j, e', m', g1, g2, g3, g4, g5, g6⟩ := ih
        refine ⟨j + 1, e', m', by omega, g2, g3, g4, g5, ?_⟩
        rcases h0 with ⟨d, hd, h1⟩ | ⟨hs, h1⟩
        · rcases g6 with ⟨d', hd', h2⟩ | ⟨hs, h2⟩
          · rw [hd] at hd'; cases hd'
            exact .inl ⟨d, hd, by simp [Instr.findNow, h1, h2]⟩
          · exfalso
            obtain ⟨n, hn⟩ := Option.isSome_iff_exists.1 hs
            obtain ⟨fs, _, hu1, _⟩ := zgc hn
            rw [hd] at hu1; cases hu1
            simp [Instr.sameNow] at h1
        · rcases g6 with ⟨d', hd', h2⟩ | ⟨hs', h2⟩
          · exfalso
            obtain ⟨n, hn⟩ := Option.isSome_iff_exists.1 hs
            obtain ⟨fs, _, hu1, _⟩ := zgc hn
            rw [hd'] at hu1; cases hu1
            cases ms with
            | nil => simp [Instr.findNow] at h2
            | cons m' ms => simp [Instr.findNow, Instr.sameNow] at h2
          · exact .inr ⟨hs, by simp [Instr.findAsking, h1, h2]⟩
    · cases hr

theorem run_findKey' {t : TypeId} {v : Value} {ms : List MapEntry} {r : Option (Nat × Value)} (h : (∃ d, P.underlying t = some d ∧ Instr.findNow d v ms 0 = some r) ∨ (zrt P t).isSome = true ∧ (Instr.findAsking t v ms 0).run P w = .ok r w) :
    (Instr.findKey t v ms).run P w = .ok r w := by
  rcases h with ⟨d, hd, h⟩ | ⟨hs, h⟩
  · exact run_findKey hd h
  · obtain ⟨n, hn⟩ := Option.isSome_iff_exists.1 hs
    obtain ⟨fs, _, hu1, _⟩ := zgc hn
    rw [run_findKey_eq w (by rw [hu1]), h]

theorem zrX (S : Sim L σ w) {id : Nat} {es : List (AV × AV)} (h : σ[id]? = some (.map es)) :
    ∃ ms clock, w.heap[(L id).a.block]? = some (.map ms clock) ∧ ms.toList.length = es.length ∧ ∀ (j : Nat) e m, es[j]? = some e → ms.toList[j]? = some m → RE w L σ e m := by
  obtain ⟨ms, clock, h1, h2, h3⟩ := S.obj id _ h
  exact ⟨ms, clock, h1, by simpa using h2, fun j e m he hm => h3 j e m he (by simpa using hm)⟩

theorem snd_mkmap (S : Sim L σ w) {t : TypeId} {kt et : TypeId} (ht : P.underlying t = some (.map kt et)) (ho : o.op = .makeMap t none) (h : zba P .mkmap fr σ K) : zaP P o a L σ w K := by
  have hf : ∀ b c, zfC { a := ⟨w.heap.size, 0, none⟩ } (.map []) b c → b = w.heap.size := fun b c h => h
  have st := zhq L σ (.map #[] 0) { a := ⟨w.heap.size, 0, none⟩ } (.map []) hf
  have S' := zkF S (.map #[] 0) { a := ⟨w.heap.size, 0, none⟩ } (.map []) hf ⟨#[], 0, by
    show (w.heap.push _)[w.heap.size]? = _
    simp, rfl, by simp⟩
  refine ⟨.map σ.length, .map (some w.heap.size), _, _, _, .inl ?_, st, S', ?_, h⟩
  · simp [execOp, ho, Instr.makeMap, newObj, Sem.run]
  · have := RV.map (w := w.alloc (.map #[] 0)) (L := zjK L σ.length { a := ⟨w.heap.size, 0, none⟩ }) (σ := σ ++ [.map []]) σ.length ⟨.map [], by simp, by simp [zd.kind]⟩
    rw [zaj] at this
    exact this

theorem snd_mget (S : Sim L σ w) (F : FR w L σ fr a.tmps) {t kt et : TypeId} {m k : Operand} {ok : Bool} {kk : KK} {inf : TypeInfo} {z : Value} {za : AV} {m' k' : Opd} (ht : P.underlying t = some (.map kt et)) (hkk : kkOf P kt = some kk)
    (hi : P.info? et = some inf) (hz : inf.zero = some z) (hza : litA z = some za) (hm : opd m = some m') (hk : opd k = some k') (ho : o.op = .lookup t m k ok) (h : zba P (.mget kk ok za m' k') fr σ K) : zaP P o a L σ w K := by
  simp only [zba, zaK] at h
  have hv := zaf F hm
  have hu := zaf F hk
  have hzero : (zeroValue et).run P w = .ok z w := by simp [zeroValue, typeInfo, hi, hz]
  split at h
  · rename_i es hes
    obtain ⟨hfit, h⟩ := h
    have hc := zoY hkk hfit hu
    -- the entries in the model
    obtain ⟨ms, hget, hl, hre⟩ : ∃ ms : Array MapEntry, (a.eval m = .map none ∧ ms = #[] ∨ ∃ r clock, a.eval m = .map (some r) ∧ w.heap[r]? = some (.map ms clock)) ∧ ms.toList.length = es.length ∧ ∀ (j : Nat) e x, es[j]? = some e → ms.toList[j]? = some x → RE w L σ e x := by
      generalize ev fr m' = M at hes hv
      cases M <;> simp only [zej] at hes <;> try (cases hes; done)
      · rename_i x
        cases x <;> simp only [zej] at hes <;> try (cases hes; done)
        cases hes
        exact ⟨#[], .inl ⟨hv.nilmap_inv, rfl⟩, rfl, by simp⟩
      · rename_i id
        split at hes
        · rename_i es' hes'
          cases hes
          obtain ⟨ms, clock, h1, h2, h3⟩ := zrX S hes'
          exact ⟨ms, .inr ⟨_, clock, hv.map_inv.1, h1⟩, h2, h3⟩
        · cases hes
    have fin : ∀ {r v}, (Instr.lookup t (a.eval m) (a.eval k) ok).run P w = .ok v w → RV w L σ r v → K r σ → zaP P o a L σ w K := fun {r v} h1 h2 h3 =>
      .same S (r := r) (v := v) (by simp [execOp, ho, h1]) h2 h3
    have fin2 : ∀ {x v} (is : Bool), RV w L σ x v → RV w L σ (zuH ok x is) (if ok then .tuple #[v, .bool is] else v) := fun {x v} is hx => by
      cases ok
      · exact hx
      · exact .tup [x, .d (.bool is)] [v, .bool is] rfl (fun i c u hc hu => by
          match i with
          | 0 => simp at hc hu; subst hc hu; exact hx
          | 1 => simp at hc hu; subst hc hu; exact .d _ _ (.bool _)
          | n + 2 => simp at hc)
    split at h
    · rename_i p v hf
      have := zlh hkk hu es ms.toList 0 hl hre hf
      obtain ⟨j, e, x, e1, e2, e3, e4, e5, e6⟩ := this
      have hrun := run_findKey' e6
      refine fin (v := if ok then .tuple #[x.val, .bool true] else x.val) ?_ (fin2 true (by rw [← e4]; exact (hre j e x e2 e3).2)) h
      rcases hget with ⟨hmn, rfl⟩ | ⟨rr, clock, hmn, hh⟩
      · simp only [Instr.lookup, Sem.run_bind, run_underlying ht, Result.andThen_ok, hmn, hc, hrun, Sem.run_pure]
      · simp only [Instr.lookup, Sem.run_bind, run_underlying ht, Result.andThen_ok, hmn, ztH hh, hc, hrun, Sem.run_pure]
    · rename_i hf
      have := zlh hkk hu es ms.toList 0 hl hre hf
      have hrun := run_findKey' this
      refine fin (v := if ok then .tuple #[z, .bool false] else z) ?_ (fin2 false (ztD hza)) h
      rcases hget with ⟨hmn, rfl⟩ | ⟨rr, clock, hmn, hh⟩
      · simp only [Instr.lookup, Sem.run_bind, run_underlying ht, Result.andThen_ok, hmn, hc, hrun, hzero, Sem.run_pure]
      · simp only [Instr.lookup, Sem.run_bind, run_underlying ht, Result.andThen_ok, hmn, ztH hh, hc, hrun, hzero, Sem.run_pure]
    · exact h.elim
  · exact h.elim

theorem snd_mset (S : Sim L σ w) (F : FR w L σ fr a.tmps) {t kt et : TypeId} {m k x : Operand} {kk : KK} {m' k' x' : Opd} (ht : P.underlying t = some (.map kt et)) (hkk : kkOf P kt = some kk)
    (hm : opd m = some m') (hk : opd k = some k') (hx : opd x = some x') (ho : o.op = .mapUpdate t m k x ∨ o.op = .insert t m k x) (h : zba P (.mset kk m' k' x') fr σ K) : zaP P o a L σ w K := by
  simp only [zba, zaV] at h
  have hv := zaf F hm
  have hu := zaf F hk
  have hz := zaf F hx
  split at h
  · rename_i id hid
    rw [hid] at hv
    split at h
    · rename_i es hes
      obtain ⟨hfit, h⟩ := h
      have hc := zoY hkk hfit hu
      obtain ⟨ms, clock, h1, h2, h3⟩ := zrX S hes
      have hlt := (Array.getElem?_eq_some_iff.1 h1).1
      have fin : ∀ {es' : List (AV × AV)} {ms' : Array MapEntry} {clock' : Nat}, (Instr.mapUpdate t (a.eval m) (a.eval k) (a.eval x)).run P w = .ok () { w with heap := w.heap.setIfInBounds (L id).a.block (.map ms' clock') } →
          ms'.size = es'.length → (∀ (j : Nat) e y, es'[j]? = some e → ms'[j]? = some y → RE w L σ e y) → K (.tup []) (σ.set id (.map es')) → zaP P o a L σ w K := fun {es' ms' clock'} g1 g2 g3 g4 => by
        obtain ⟨st, S'⟩ := obj_set S hes (x' := .map es') rfl (by simp [zd.kind]) (by simp [zd.kind]) (.map ms' clock') (fun w' e st => by
          subst e
          refine ⟨ms', clock', ?_, g2, fun j e y hj hy => (g3 j e y hj hy).mono st⟩
          show (w.heap.setIfInBounds _ _)[_]? = _
          simp [hlt])
        refine ⟨.tup [], .tuple #[], L, _, _, .inr ⟨?_, rfl⟩, st, S', .tup [] [] rfl (by simp), g4⟩
        rcases ho with ho | ho <;> simp [execOp, ho, g1]
      have hme := hv.map_inv.1
      split at h
      · rename_i p v hf
        obtain ⟨j, e, y, e1, e2, e3, e4, e5, e6⟩ := zlh hkk hu es ms.toList 0 h2 h3 hf
        have hrun := run_findKey' e6
        have hpj : p = j := by omega
        subst hpj
        have hky : ms[p]? = some y := by simpa using e3
        refine fin (es' := es.set p (ev fr k', ev fr x')) (ms' := ms.modify p fun e => { e with key := a.eval k, val := a.eval x }) (clock' := clock) ?_ (by simpa using h2) (fun j' e' y' hj hy => ?_) h
        · have hst := run_stays (P := P) hfit hu
          simp only [Instr.mapUpdate, Sem.run_bind, run_underlying ht, Result.andThen_ok, hme, ztH h1, hc, hrun, hky, Option.map_some, Option.getD_some, e5, hst, setmap _ h1]
        · rw [Array.getElem?_modify] at hy
          rw [List.getElem?_set] at hj
          split at hj
          · rename_i hpe
            subst hpe
            split at hj
            · cases hj
              rw [if_pos rfl, hky] at hy
              cases hy
              exact ⟨hu, hz⟩
            · cases hj
          · rename_i hpe
            rw [if_neg hpe] at hy
            exact h3 j' e' y' hj (by simpa using hy)
      · rename_i hf
        have hrun := run_findKey' (zlh hkk hu es ms.toList 0 h2 h3 hf)
        refine fin (es' := es ++ [(ev fr k', ev fr x')]) (ms' := ms.push { key := a.eval k, val := a.eval x, born := clock }) (clock' := clock + 1) ?_ (by simpa using h2) (fun j' e' y' hj hy => ?_) h
        · simp only [Instr.mapUpdate, Sem.run_bind, run_underlying ht, Result.andThen_ok, hme, ztH h1, hc, hrun, setmap _ h1]
        · have hms : ms.size = es.length := by simpa using h2
          rw [Array.getElem?_push] at hy
          split at hy
          · rename_i hpe
            cases hy
            rw [hpe, hms, List.getElem?_concat_length] at hj
            cases hj
            exact ⟨hu, hz⟩
          · rename_i hpe
            have hlt2 : j' < ms.size := (Array.getElem?_eq_some_iff.1 hy).1
            rw [List.getElem?_append_left (by omega)] at hj
            exact h3 j' e' y' hj (by simpa using hy)
      · exact h.elim
    · exact h.elim
  · exact h.elim

theorem snd_mdel (S : Sim L σ w) (F : FR w L σ fr a.tmps) {c : Call} {t kt et : TypeId} {m k : Operand} {kk : KK} {m' k' : Opd} (ho : o.op = .call c) (hcal : c.callee = .builtin .delete) (hat : c.argTypes[0]? = some t) (hargs : c.args.toList = [m, k])
    (ht : P.underlying t = some (.map kt et)) (hkk : kkOf P kt = some kk)
    (hm : opd m = some m') (hk : opd k = some k') (h : zba P (.mdel kk m' k') fr σ K) : zaP P o a L σ w K := by
  have hargs' : c.args = #[m, k] := by apply Array.ext'; simpa using hargs
  simp only [zba, zbj] at h
  have hv := zaf F hm
  have hu := zaf F hk
  have run : ∀ {w'}, (Builtin.delete_ c.argTypes o.type #[a.eval m, a.eval k]).run P w = .ok (.tuple #[]) w' → (execOp a.eval o).run P w = .ok (.value (.tuple #[])) w' := fun {w'} h1 => by
    simp [execOp, ho, resolve, hcal, hargs', invoke, builtin, h1]
  split at h
  · rename_i id hid
    rw [hid] at hv
    split at h
    · rename_i es hes
      obtain ⟨hfit, h⟩ := h
      have hc := zoY hkk hfit hu
      obtain ⟨ms, clock, h1, h2, h3⟩ := zrX S hes
      have hlt := (Array.getElem?_eq_some_iff.1 h1).1
      have fin : ∀ {es' : List (AV × AV)} {ms' : Array MapEntry} {clock' : Nat}, (Builtin.delete_ c.argTypes o.type #[a.eval m, a.eval k]).run P w = .ok (.tuple #[]) { w with heap := w.heap.setIfInBounds (L id).a.block (.map ms' clock') } →
          ms'.size = es'.length → (∀ (j : Nat) e y, es'[j]? = some e → ms'[j]? = some y → RE w L σ e y) → K (.tup []) (σ.set id (.map es')) → zaP P o a L σ w K := fun {es' ms' clock'} g1 g2 g3 g4 => by
        obtain ⟨st, S'⟩ := obj_set S hes (x' := .map es') rfl (by simp [zd.kind]) (by simp [zd.kind]) (.map ms' clock') (fun w' e st => by
          subst e
          refine ⟨ms', clock', ?_, g2, fun j e y hj hy => (g3 j e y hj hy).mono st⟩
          show (w.heap.setIfInBounds _ _)[_]? = _
          simp [hlt])
        exact ⟨.tup [], .tuple #[], L, _, _, .inl (run g1), st, S', .tup [] [] rfl (by simp), g4⟩
      have hme := hv.map_inv.1
      split at h
      · rename_i p v hf
        obtain ⟨j, e, y, e1, e2, e3, e4, e5, e6⟩ := zlh hkk hu es ms.toList 0 h2 h3 hf
        have hrun := run_findKey' e6
        have hpj : p = j := by omega
        subst hpj
        have hms : ms.size = es.length := by simpa using h2
        have hplt := zh e2
        refine fin (es' := es.eraseIdx p) (ms' := ms.eraseIdxIfInBounds p) (clock' := clock) ?_ ?_ (fun j' e' y' hj hy => ?_) h
        · simp only [Builtin.delete_, List.getElem?_toArray, List.getElem?_cons_zero, List.getElem?_cons_succ, hat, Sem.run_bind, run_underlying ht, Result.andThen_ok, hme, ztH h1, hc, hrun, setmap _ h1, Sem.run_pure]
        · rw [Array.eraseIdxIfInBounds, dif_pos (by omega)]
          simp [List.length_eraseIdx, hplt, hms]
        · rw [Array.eraseIdxIfInBounds, dif_pos (by omega), ← Array.getElem?_toList, Array.toList_eraseIdx] at hy
          rw [List.getElem?_eraseIdx] at hj hy
          split at hj
          · rename_i hlt'
            rw [if_pos hlt'] at hy
            exact h3 j' e' y' hj hy
          · rename_i hlt'
            rw [if_neg hlt'] at hy
            exact h3 (j' + 1) e' y' hj hy
      · rename_i hf
        have hrun := run_findKey' (zlh hkk hu es ms.toList 0 h2 h3 hf)
        have hset : σ.set id (.map es) = σ := by
          apply List.ext_getElem?
          intro j
          rw [List.getElem?_set]
          split
          · rename_i e; subst e; rw [hes, if_pos (zh hes)]
          · rfl
        refine fin (es' := es) (ms' := ms) (clock' := clock) ?_ (by simpa using h2) (fun j' e' y' hj hy => h3 j' e' y' hj (by simpa using hy)) (by rw [hset]; exact h)
        simp only [Builtin.delete_, List.getElem?_toArray, List.getElem?_cons_zero, List.getElem?_cons_succ, hat, Sem.run_bind, run_underlying ht, Result.andThen_ok, hme, ztH h1, hc, hrun, setmap _ h1, Sem.run_pure]
      · exact h.elim
    · exact h.elim
  · rename_i hid
    rw [hid] at hv
    obtain ⟨hfit, h⟩ := h
    have hc := zoY hkk hfit hu
    refine .same S (r := .tup []) (v := .tuple #[]) (run ?_) (.tup [] [] rfl (by simp)) h
    simp only [Builtin.delete_, List.getElem?_toArray, List.getElem?_cons_zero, List.getElem?_cons_succ, hat, Sem.run_bind, run_underlying ht, Result.andThen_ok, hv.nilmap_inv, hc, Sem.run_pure]
  · exact h.elim

theorem snd_isnil (S : Sim L σ w) (F : FR w L σ fr a.tmps) {op : BinOp} {t u : TypeId} {x y : Operand} {x' : Opd} (hn : nilCmp P op t y = true) (hx : opd x = some x') (ho : o.op = .binOp op t x y u)
    (h : zba P (.isnil (zsd op) x') fr σ K) : zaP P o a L σ w K := by
  simp only [zba, zY] at h
  have hv := zaf F hx
  obtain ⟨e, ht, hy, hop⟩ : ∃ e, P.underlying t = some (.slice e) ∧ y = .const (.slice none 0 0) ∧ (op = .eql ∨ op = .neq) := by
    unfold nilCmp at hn
    split at hn
    · exact ⟨_, by assumption, rfl, .inl rfl⟩
    · exact ⟨_, by assumption, rfl, .inr rfl⟩
    · cases hn
  subst hy
  have fin : ∀ {b n c}, a.eval x = .slice b n c → K (.d (.bool (b.isNone != zsd op))) σ → zaP P o a L σ w K := fun {b n c} h1 h2 => by
    refine .same S (r := .d (.bool (b.isNone != zsd op))) (v := .bool (b.isNone != zsd op)) ?_ (.d _ _ (.bool _)) h2
    have he : a.eval (.const (.slice none 0 0)) = .slice none 0 0 := rfl
    rcases hop with rfl | rfl
    · simp [execOp, ho, h1, he, eqGuard_at_slice, Lib.run_eql_slice_nil w t e b n c 0 0 ht, zsd]
    · have := run_neq_slice_nil_any w t e b n c 0 0 ht
      simp [execOp, ho, h1, he, eqGuard_at_slice, this, zsd]
  split at h
  · rename_i hes
    obtain ⟨b, cap, hX, _⟩ := (hv.esOf_inv hes).len
    refine fin hX ?_
    cases b with
    | none => cases hq : zsd op <;> simp <;> first | exact h.1 | exact h.2
    | some _ => cases hq : zsd op <;> simp <;> first | exact h.1 | exact h.2
  · rename_i e' es' hes
    obtain ⟨b, cap, hX, hle, hb⟩ := (hv.esOf_inv hes).len
    refine fin hX ?_
    cases b with
    | none => have := hb rfl; simp at hle; omega
    | some _ => simpa using h
  · split at h
    · rename_i hid
      rw [hid] at hv
      obtain ⟨hX, _⟩ := hv.bsl_inv
      exact fin hX (by simpa using h)
    · rename_i lo hi hid
      rw [hid] at hv
      obtain ⟨b, cap, hX, _, _, hle, hb, _⟩ := hv.rsl_inv
      refine fin hX ?_
      rcases Nat.eq_zero_or_pos (hi - lo) with h0 | h0
      · have h' := h.1 h0
        cases b with
        | none => cases hq : zsd op <;> simp <;> first | exact h'.1 | exact h'.2
        | some _ => cases hq : zsd op <;> simp <;> first | exact h'.1 | exact h'.2
      · have h' := h.2 h0
        cases b with
        | none => have := hb rfl; omega
        | some _ => simpa using h'
    · exact h.elim

end

end Go.AW

/- THE ABSTRACT LOGIC IS SOUND: what is shown of a function's resolved code holds of the model's run. -/
set_option linter.unusedSimpArgs false
set_option linter.unusedVariables false
namespace Go.AW
section
variable {P : Program} {o : Oper} {fr : zao} {σ : List zd} {K : KT} {L : Nat → Loc} {w : World} {a : Act}

theorem callOk_spec {f : FuncId} (h : zub P f = true) : ∃ fn c, P.funcs[f]? = some fn ∧ fn.name ≠ "runtime.NumGoroutine" ∧ fn.body = some c := by
  unfold zub at h
  split at h
  · rename_i fn hf
    simp only [Bool.and_eq_true, bne_iff_ne, ne_eq] at h
    obtain ⟨h1, h2⟩ := h
    cases hb : fn.body with
    | none => simp [hb] at h2
    | some c => exact ⟨fn, c, hf, h1, hb⟩
  · cases h

theorem zmG {f : FuncId} (h : zub P f = true) (args : Array Value) (w : World) : (callFunc f args).run P w = .ok (.enter f args) w := by
  obtain ⟨fn, c, h1, h2, h3⟩ := callOk_spec h
  simp [callFunc, program, Sem.run, h1, h2, h3]

theorem dm1_sound {x : AV} {v : Value} (h : RV w L σ x v) : RV w L σ (dm1 x) v := by
  cases h with
  | own _ _ _ _ _ _ _ _ h => exact .d _ _ h
  | exact _ _ h => exact .d _ _ h
  | d _ _ h => exact .d _ _ h
  | agg _ _ h1 h2 => exact .agg _ _ h1 h2
  | tup _ _ h1 h2 => exact .tup _ _ h1 h2
  | bsl _ _ _ _ _ h1 h2 => exact .bsl _ _ _ _ _ h1 h2
  | box _ _ h => exact .box _ _ h
  | vp _ _ _ h => exact .vp _ _ _ h
  | map _ h => exact .map _ h
  | iter _ h => exact .iter _ h
  | fn _ _ _ _ _ h1 h2 h3 h4 => exact .fn _ _ _ _ _ h1 h2 h3 h4
  | rsl _ _ _ _ _ _ _ h1 h2 h3 h4 h5 h6 h7 => exact .rsl _ _ _ _ _ _ _ h1 h2 h3 h4 h5 h6 h7
  | rpt _ _ _ _ _ h1 h2 h3 => exact .rpt _ _ _ _ _ h1 h2 h3
  | undef _ => exact .undef _

theorem zrz {x : AV} {v : Value} (h : RV w L σ x v) : RV w L σ (dm x) v := by
  cases x with
  | agg cs =>
    obtain ⟨vs, rfl, h1, h2⟩ := h.agg_inv
    refine .agg _ _ (by simpa using h1) fun i c v hc hv => ?_
    simp only [List.getElem?_map, Option.map_eq_some_iff] at hc
    obtain ⟨c', hc', rfl⟩ := hc
    exact dm1_sound (h2 i c' v hc' hv)
  | _ => exact dm1_sound h

theorem RVs.append {as0 bs : List AV} {us vs : List Value} (h1 : RVs w L σ as0 us) (h2 : RVs w L σ bs vs) : RVs w L σ (as0 ++ bs) (us ++ vs) := by
  refine ⟨by simp [h1.1, h2.1], fun i x v hx hv => ?_⟩
  rcases Nat.lt_or_ge i as0.length with hl | hl
  · rw [List.getElem?_append_left hl] at hx
    rw [List.getElem?_append_left (by rw [h1.1]; exact hl)] at hv
    exact h1.2 i x v hx hv
  · rw [List.getElem?_append_right hl] at hx
    rw [List.getElem?_append_right (by rw [h1.1]; exact hl), h1.1] at hv
    exact h2.2 _ x v hx hv

theorem dms_sound (F : FR w L σ fr a.tmps) {os : List Operand} {xs : List Opd} (h : os.mapM opd = some xs) : RVs w L σ (xs.map fun x => dm (ev fr x)) (os.map a.eval) := by
  have h0 := zkH F h
  refine ⟨by have := h0.1; simpa using this, fun i b v hb hv => ?_⟩
  simp only [List.getElem?_map, Option.map_eq_some_iff] at hb
  obtain ⟨x, hx, rfl⟩ := hb
  exact zrz (h0.2 i (ev fr x) v (by simp [hx]) hv)

abbrev After (P : Program) (o : Oper) (a : Act) (L : Nat → Loc) (σ : List zd) (w : World) (K : KT) (next : Act → World → Prop) : Prop :=
  ∀ r v L' σ' w', zdP L σ w L' σ' w' → Sim L' σ' w' → RV w' L' σ' r v → K r σ' → next (a.put o.dst v) w'

theorem zaP.wp (h : zaP P o a L σ w K) {next : Act → World → Prop} {Q : Exit → Act → World → Prop} (hk : After P o a L σ w K next) : o.wp P a w next Q := by
  obtain ⟨r, v, L', σ', w', hrun, s, S', hr, hK⟩ := h
  unfold Oper.wp
  rcases hrun with hrun | ⟨hrun, rfl⟩
  · rw [hrun]; exact hk r v L' σ' w' s S' hr hK
  · rw [hrun]; exact hk r _ L' σ' w' s S' hr hK

theorem call_wp {f : FuncId} {as0 : List AV} {vs : List Value} (hrun : (execOp a.eval o).run P w = .ok (.enter f vs.toArray) w) (S : Sim L σ w) (hv : RVs w L σ as0 vs) (h : zl P f as0 σ K) {next : Act → World → Prop} {Q : Exit → Act → World → Prop}
    (hk : After P o a L σ w K next) : o.wp P a w next Q := by
  unfold Oper.wp
  rw [hrun, Oper.upon_enter]
  refine (h.2 L w vs S hv).mono fun e w' he => ?_
  cases e with
  | returned v =>
    obtain ⟨L', σ', r, s, S', hr, hK⟩ := he
    exact hk r v L' σ' w' s S' hr hK
  | panicked ch => exact he.elim
  | outgrown => exact he.elim

theorem astep_sound {i : I} (hc : zcE P o = some i.norm) (S : Sim L σ w) (F : FR w L σ fr a.tmps) (h : zba P i fr σ K) {next : Act → World → Prop} {Q : Exit → Act → World → Prop}
    (hk : After P o a L σ w K next) : o.wp P a w next Q := by
  cases hop : o.op with
  | move x =>
    simp only [zcE, hop, Option.bind_eq_bind, Option.bind_eq_some_iff, Option.pure_def, Option.some.injEq] at hc
    obtain ⟨y, hy, hc⟩ := hc
    cases i <;> simp only [I.norm] at hc <;> cases hc
    exact (snd_mv S F hy (.inl hop) h).wp hk
  | assign x =>
    simp only [zcE, hop, Option.bind_eq_bind, Option.bind_eq_some_iff, Option.pure_def, Option.some.injEq] at hc
    obtain ⟨y, hy, hc⟩ := hc
    cases i <;> simp only [I.norm] at hc <;> cases hc
    exact (snd_mv S F hy (.inr hop) h).wp hk
  | pick c x y =>
    simp only [zcE, hop, Option.bind_eq_bind, Option.bind_eq_some_iff, Option.pure_def, Option.some.injEq] at hc
    obtain ⟨c', hc', x', hx, y', hy, hc⟩ := hc
    cases i <;> simp only [I.norm] at hc <;> cases hc
    exact (snd_pick S F hc' hx hy hop h).wp hk
  | alloc t =>
    simp only [zcE, hop, Option.bind_eq_bind, Option.bind_eq_some_iff, Option.pure_def, Option.some.injEq] at hc
    obtain ⟨z, hz, hc⟩ := hc
    cases i <;> simp only [I.norm] at hc <;> cases hc
    exact (snd_alloc S hz hop h).wp hk
  | box t x =>
    simp only [zcE, hop, Option.bind_eq_bind, Option.bind_eq_some_iff, Option.pure_def, Option.some.injEq] at hc
    obtain ⟨y, hy, hc⟩ := hc
    cases i <;> simp only [I.norm] at hc <;> cases hc
    exact (snd_box S F hy hop h).wp hk
  | build t parts =>
    have hc' := hc
    simp only [zcE, hop] at hc
    have : i.norm = i := by
      split at hc
      · simp only [Option.bind_eq_bind, Option.bind_eq_some_iff] at hc
        obtain ⟨_, _, _, _, hc⟩ := hc
        split at hc
        · simp only [Option.pure_def, Option.some.injEq] at hc
          cases i <;> simp only [I.norm] at hc <;> cases hc; rfl
        · cases hc
      · simp only [Option.bind_eq_bind, Option.bind_eq_some_iff, Option.pure_def, Option.some.injEq] at hc
        obtain ⟨_, _, _, _, _, _, hc⟩ := hc
        cases i <;> simp only [I.norm] at hc <;> cases hc; rfl
      · cases hc
    rw [this] at hc'
    exact (snd_build S F hop hc' h).wp hk
  | buildSlice t n parts =>
    have hc' := hc
    simp only [zcE, hop] at hc
    split at hc
    · simp only [Option.bind_eq_bind, Option.bind_eq_some_iff, Option.pure_def] at hc
      obtain ⟨_, _, _, _, _, _, hc⟩ := hc
      split at hc
      · simp only [Option.some.injEq] at hc
        cases i <;> simp only [I.norm] at hc <;> cases hc
        exact (snd_mkslice S F hop hc' h).wp hk
      · cases hc
    · cases hc
  | load t x =>
    simp only [zcE, hop, Option.bind_eq_bind, Option.bind_eq_some_iff, Option.pure_def, Option.some.injEq] at hc
    obtain ⟨g, hg, n, hn, y, hy, hc⟩ := hc
    cases i <;> simp only [I.norm] at hc <;> cases hc
    exact (snd_load S F hg hn hy hop h).wp hk
  | store t x y =>
    simp only [zcE, hop, Option.bind_eq_bind, Option.bind_eq_some_iff, Option.pure_def, Option.some.injEq] at hc
    obtain ⟨n, hn, x', hx, y', hy, hc⟩ := hc
    cases i <;> simp only [I.norm] at hc <;> cases hc
    exact (snd_store S F hn hx hy hop h).wp hk
  | nilCheck x =>
    simp only [zcE, hop, Option.bind_eq_bind, Option.bind_eq_some_iff, Option.pure_def, Option.some.injEq] at hc
    obtain ⟨y, hy, hc⟩ := hc
    cases i <;> simp only [I.norm] at hc <;> cases hc
    exact (snd_nilchk S F hy hop h).wp hk
  | binOp op t x y u =>
    simp only [zcE, hop] at hc
    split at hc
    · rename_i hn
      simp only [Option.bind_eq_bind, Option.bind_eq_some_iff, Option.pure_def, Option.some.injEq] at hc
      obtain ⟨x', hx, hc⟩ := hc
      cases i <;> simp only [I.norm] at hc <;> cases hc
      exact (snd_isnil S F hn hx hop h).wp hk
    · simp only [Option.bind_eq_bind, Option.bind_eq_some_iff, Option.pure_def, Option.some.injEq] at hc
      obtain ⟨e, he, x', hx, y', hy, hc⟩ := hc
      cases i <;> simp only [I.norm] at hc <;> cases hc
      exact (snd_bin S F he hx hy hop h).wp hk
  | makeMap t r =>
    cases r with
    | some r => simp [zcE, hop] at hc
    | none =>
      simp only [zcE, hop] at hc
      split at hc
      · rename_i kt et ht
        cases i <;> simp only [I.norm] at hc <;> cases hc
        exact (snd_mkmap S ht hop h).wp hk
      · cases hc
  | lookup t m k ok =>
    simp only [zcE, hop] at hc
    split at hc
    · rename_i kt et ht
      simp only [Option.bind_eq_bind, Option.bind_eq_some_iff, Option.pure_def, Option.some.injEq] at hc
      obtain ⟨kk, hkk, inf, hi, z, hz, za, hza, m', hm, k', hk', hc⟩ := hc
      cases i <;> simp only [I.norm] at hc <;> cases hc
      exact (snd_mget S F ht hkk hi hz hza hm hk' hop h).wp hk
    · cases hc
  | mapUpdate t m k x =>
    simp only [zcE, hop] at hc
    split at hc
    · rename_i kt et ht
      simp only [Option.bind_eq_bind, Option.bind_eq_some_iff, Option.pure_def, Option.some.injEq] at hc
      obtain ⟨kk, hkk, m', hm, k', hk', x', hx, hc⟩ := hc
      cases i <;> simp only [I.norm] at hc <;> cases hc
      exact (snd_mset S F ht hkk hm hk' hx (.inl hop) h).wp hk
    · cases hc
  | insert t m k x =>
    simp only [zcE, hop] at hc
    split at hc
    · rename_i kt et ht
      simp only [Option.bind_eq_bind, Option.bind_eq_some_iff, Option.pure_def, Option.some.injEq] at hc
      obtain ⟨kk, hkk, m', hm, k', hk', x', hx, hc⟩ := hc
      cases i <;> simp only [I.norm] at hc <;> cases hc
      exact (snd_mset S F ht hkk hm hk' hx (.inr hop) h).wp hk
    · cases hc
  | unOp op t x =>
    simp only [zcE, hop, Option.bind_eq_bind, Option.bind_eq_some_iff, Option.pure_def, Option.some.injEq] at hc
    obtain ⟨y, hy, hc⟩ := hc
    cases i <;> simp only [I.norm] at hc <;> cases hc
    exact (snd_un S F hy hop h).wp hk
  | convert src dst x =>
    have hc' := hc
    simp only [zcE, hop] at hc
    have : i.norm = i := by
      cases i <;> first | rfl | skip
      all_goals
        split at hc <;> first
          | (split at hc <;> first | (simp only [Option.bind_eq_bind, Option.bind_eq_some_iff, Option.pure_def, Option.some.injEq] at hc; obtain ⟨_, _, hc⟩ := hc; simp only [I.norm] at hc; cases hc; done) | (cases hc; done))
          | (simp only [Option.bind_eq_bind, Option.bind_eq_some_iff, Option.pure_def, Option.some.injEq] at hc; obtain ⟨_, _, hc⟩ := hc; simp only [I.norm] at hc; cases hc; done)
          | (cases hc; done)
    rw [this] at hc'
    exact (snd_conv S F hop hc' h).wp hk
  | slice t x lo hi mx =>
    have hc' := hc
    simp only [zcE, hop] at hc
    have : i.norm = i := by
      cases i <;> first | rfl | skip
      all_goals
        split at hc
        · simp only [Option.bind_eq_bind, Option.bind_eq_some_iff, Option.pure_def, Option.some.injEq] at hc
          obtain ⟨_, _, _, _, _, _, _, _, hc⟩ := hc; simp only [I.norm] at hc; cases hc
        · simp only [Option.bind_eq_bind, Option.bind_eq_some_iff, Option.pure_def, Option.some.injEq] at hc
          obtain ⟨_, _, _, _, _, _, _, _, _, _, hc⟩ := hc; simp only [I.norm] at hc; cases hc
        · simp only [Option.bind_eq_bind, Option.bind_eq_some_iff, Option.pure_def, Option.some.injEq] at hc
          obtain ⟨_, _, _, _, _, _, _, _, _, _, hc⟩ := hc; simp only [I.norm] at hc; cases hc
        · cases hc
    rw [this] at hc'
    exact (snd_slc S F hop hc' h).wp hk
  | fieldAddr t x k =>
    have hc' := hc
    simp only [zcE, hop] at hc
    have : i.norm = i := by
      cases i <;> first | rfl | skip
      all_goals
        split at hc
        · simp only [Option.bind_eq_bind, Option.bind_eq_some_iff] at hc
          obtain ⟨_, _, _, _, hc⟩ := hc
          split at hc
          · cases hc
          · simp only [Option.bind_eq_some_iff, Option.pure_def, Option.some.injEq] at hc
            obtain ⟨_, _, hc⟩ := hc; simp only [I.norm] at hc; cases hc
        · cases hc
    rw [this] at hc'
    exact (snd_faddr S F hop hc' h).wp hk
  | field t x k =>
    have hc' := hc
    simp only [zcE, hop] at hc
    have : i.norm = i := by
      cases i <;> first | rfl | skip
      all_goals
        split at hc
        · simp only [Option.bind_eq_bind, Option.bind_eq_some_iff, Option.pure_def, Option.some.injEq] at hc
          obtain ⟨_, _, _, _, _, _, _, _, hc⟩ := hc; simp only [I.norm] at hc; cases hc
        · cases hc
    rw [this] at hc'
    exact (snd_field S F hop hc' h).wp hk
  | indexAddr t x y =>
    have hc' := hc
    simp only [zcE, hop] at hc
    have : i.norm = i := by
      cases i <;> first | rfl | skip
      all_goals
        split at hc
        · simp only [Option.bind_eq_bind, Option.bind_eq_some_iff, Option.pure_def, Option.some.injEq] at hc
          obtain ⟨_, _, _, _, _, _, hc⟩ := hc; simp only [I.norm] at hc; cases hc
        · simp only [Option.bind_eq_bind, Option.bind_eq_some_iff, Option.pure_def, Option.some.injEq] at hc
          obtain ⟨_, _, _, _, _, _, hc⟩ := hc; simp only [I.norm] at hc; cases hc
        · cases hc
    rw [this] at hc'
    exact (snd_iaddr S F hop hc' h).wp hk
  | index t x y =>
    have hc' := hc
    simp only [zcE, hop] at hc
    have : i.norm = i := by
      cases i <;> first | rfl | skip
      all_goals
        split at hc
        · simp only [Option.bind_eq_bind, Option.bind_eq_some_iff, Option.pure_def, Option.some.injEq] at hc
          obtain ⟨_, _, _, _, hc⟩ := hc; simp only [I.norm] at hc; cases hc
        · simp only [Option.bind_eq_bind, Option.bind_eq_some_iff, Option.pure_def, Option.some.injEq] at hc
          obtain ⟨_, _, _, _, _, _, _, _, hc⟩ := hc; simp only [I.norm] at hc; cases hc
        · cases hc
    rw [this] at hc'
    exact (snd_idxA S F hop hc' h).wp hk
  | extract x k =>
    simp only [zcE, hop, Option.bind_eq_bind, Option.bind_eq_some_iff, Option.pure_def, Option.some.injEq] at hc
    obtain ⟨y, hy, hc⟩ := hc
    cases i <;> simp only [I.norm] at hc <;> cases hc
    exact (snd_extract S F hy hop h).wp hk
  | range t x =>
    have hc' := hc
    simp only [zcE, hop] at hc
    have : i.norm = i := by
      cases i <;> first | rfl | skip
      all_goals
        split at hc
        · simp only [Option.bind_eq_bind, Option.bind_eq_some_iff, Option.pure_def, Option.some.injEq] at hc
          obtain ⟨_, _, hc⟩ := hc; simp only [I.norm] at hc; cases hc
        · cases hc
    rw [this] at hc'
    exact (snd_rangeS S F hop hc' h).wp hk
  | next x s =>
    cases s
    · simp [zcE, hop] at hc
    · simp only [zcE, hop, Option.bind_eq_bind, Option.bind_eq_some_iff, Option.pure_def, Option.some.injEq] at hc
      obtain ⟨y, hy, hc⟩ := hc
      cases i <;> simp only [I.norm] at hc <;> cases hc
      exact (snd_nextS S F hy hop h).wp hk
  | makeFunc f first cap =>
    simp only [zcE, hop, Option.bind_eq_bind, Option.bind_eq_some_iff, Option.pure_def, Option.some.injEq] at hc
    obtain ⟨f', hf, c', hcp, hc⟩ := hc
    cases i <;> simp only [I.norm] at hc <;> cases hc
    exact (snd_mkfn S F hf hcp hop h).wp hk
  | call c =>
    simp only [zcE, hop] at hc
    split at hc
    · rename_i f hcal
      split at hc
      · rename_i hok
        simp only [Option.bind_eq_bind, Option.bind_eq_some_iff, Option.pure_def, Option.some.injEq] at hc
        obtain ⟨args, hargs, hc⟩ := hc
        cases i <;> simp only [I.norm] at hc <;> cases hc
        rename_i raw
        have e1 : c.args.map a.eval = (c.args.toList.map a.eval).toArray := by apply Array.ext'; simp
        cases raw
        · refine call_wp (vs := c.args.toList.map a.eval) ?_ S (dms_sound F hargs) h hk
          simp [execOp, hop, resolve, hcal, Act.eval, Deferred.ofValue, invoke, zmG hok, e1]
        · refine call_wp (vs := c.args.toList.map a.eval) ?_ S (zkH F hargs) h hk
          simp [execOp, hop, resolve, hcal, Act.eval, Deferred.ofValue, invoke, zmG hok, e1]
      · cases hc
    · rename_i x _ hcal
      simp only [Option.bind_eq_bind, Option.bind_eq_some_iff, Option.pure_def, Option.some.injEq] at hc
      obtain ⟨g, hg, args, hargs, hc⟩ := hc
      cases i <;> simp only [I.norm] at hc <;> cases hc
      simp only [zba, zam] at h
      have hv := zaf F hg
      split at h
      · rename_i f first cap hid
        rw [hid] at hv
        obtain ⟨fs, cs, hX, r1, r2⟩ := hv.fn_inv
        refine call_wp (vs := fs ++ c.args.toList.map a.eval ++ cs) ?_ S ((r1.append (dms_sound F hargs)).append r2) h hk
        have e1 : c.args.map a.eval = (c.args.toList.map a.eval).toArray := by apply Array.ext'; simp
        simp [execOp, hop, resolve, hcal, hX, Deferred.ofValue, invoke, zmG h.1, e1]
      · exact h.elim
    · rename_i hcal
      split at hc
      · rename_i t x ht hargs
        have key : ∀ (k : LK) (y : Opd), opd x = some y → i = .len k y → LKok P t k → o.wp P a w next Q := fun k y hy hi hp => by
          subst hi; exact (snd_len S F hop hcal ht hargs hy hp h).wp hk
        split at hc
        · rename_i hu
          simp only [Option.bind_eq_bind, Option.bind_eq_some_iff, Option.pure_def, Option.some.injEq] at hc
          obtain ⟨y, hy, hc⟩ := hc
          exact key .str y hy (by cases i <;> simp only [I.norm] at hc <;> cases hc; rfl) hu
        · rename_i e hu
          simp only [Option.bind_eq_bind, Option.bind_eq_some_iff, Option.pure_def, Option.some.injEq] at hc
          obtain ⟨y, hy, hc⟩ := hc
          exact key .sl y hy (by cases i <;> simp only [I.norm] at hc <;> cases hc; rfl) ⟨e, hu⟩
        · rename_i n e hu
          simp only [Option.bind_eq_bind, Option.bind_eq_some_iff, Option.pure_def, Option.some.injEq] at hc
          obtain ⟨y, hy, hc⟩ := hc
          exact key (.arr n) y hy (by cases i <;> simp only [I.norm] at hc <;> cases hc; rfl) (.inl ⟨e, hu⟩)
        · simp only [Option.bind_eq_bind, Option.bind_eq_some_iff, Option.pure_def, Option.some.injEq] at hc
          obtain ⟨y, hy, hc⟩ := hc
          exact key .map y hy (by cases i <;> simp only [I.norm] at hc <;> cases hc; rfl) ⟨_, _, by assumption⟩
        · rename_i e hu
          split at hc
          · rename_i n e' hu'
            simp only [Option.bind_eq_bind, Option.bind_eq_some_iff, Option.pure_def, Option.some.injEq] at hc
            obtain ⟨y, hy, hc⟩ := hc
            exact key (.arr n) y hy (by cases i <;> simp only [I.norm] at hc <;> cases hc; rfl) (.inr ⟨e, e', hu, hu'⟩)
          · cases hc
        · cases hc
      · cases hc
    · rename_i hcal
      split at hc
      · rename_i t u x y hat hargs
        have key : ∀ e, P.underlying t = some (.slice e) → ((∃ e', P.underlying u = some (.slice e')) ∨ P.underlying u = some .string) →
            (do let s ← sizeOf? P e; let i ← P.info? e; let z ← zpW P e; if 0 < s && z.length == s && 0 < i.bytes then pure (I.append false s i.bytes z (← opd x) (← opd y)) else none) = some i.norm → o.wp P a w next Q := fun e ht hu hc => by
          simp only [Option.bind_eq_bind, Option.bind_eq_some_iff] at hc
          obtain ⟨s, hs, inf, hi, z, hz, hc⟩ := hc
          split at hc
          · rename_i hcond
            simp only [Bool.and_eq_true, decide_eq_true_eq, beq_iff_eq] at hcond
            simp only [Option.bind_eq_some_iff, Option.pure_def, Option.some.injEq] at hc
            obtain ⟨x', hx, y', hy, hc⟩ := hc
            cases i <;> simp only [I.norm] at hc <;> cases hc
            rename_i mu
            cases mu
            · exact (snd_append S F hop hcal hat hargs ht hu hs hi hz hcond.1.1 hcond.1.2 hcond.2 rfl hx hy h).wp hk
            · exact (snd_appendR S F hop hcal hat hargs ht hu hs hi hz hcond.1.1 hcond.1.2 hcond.2 rfl hx hy h).wp hk
          · cases hc
        split at hc
        · rename_i e e' ht hu; exact key e ht (.inl ⟨e', hu⟩) hc
        · rename_i e ht hu; exact key e ht (.inr hu) hc
        · rename_i e k0 ht hu
          simp only [Option.bind_eq_bind, Option.bind_eq_some_iff] at hc
          obtain ⟨s, hs, inf, hi, z, hz, hc⟩ := hc
          split at hc
          · rename_i hcond
            simp only [Bool.and_eq_true, decide_eq_true_eq, beq_iff_eq] at hcond
            simp only [Option.bind_eq_some_iff, Option.pure_def, Option.some.injEq] at hc
            obtain ⟨x', hx, y', hy, hc⟩ := hc
            cases i <;> simp only [I.norm] at hc <;> cases hc
            exact (snd_appz S F hop hcal hat hargs ht hu hs hi hz hcond.1.1 hcond.1.2 hcond.2 rfl hx hy h).wp hk
          · cases hc
        · cases hc
      · cases hc
    · rename_i hcal
      split at hc
      · rename_i t m k hat hargs
        split at hc
        · rename_i kt et ht
          simp only [Option.bind_eq_bind, Option.bind_eq_some_iff, Option.pure_def, Option.some.injEq] at hc
          obtain ⟨kk, hkk, m', hm, k', hk', hc⟩ := hc
          cases i <;> simp only [I.norm] at hc <;> cases hc
          exact (snd_mdel S F hop hcal hat hargs ht hkk hm hk' h).wp hk
        · cases hc
      · cases hc
    · rename_i hcal
      split at hc
      · rename_i t x hat hargs
        split at hc
        · rename_i e ht
          simp only [Option.bind_eq_bind, Option.bind_eq_some_iff, Option.pure_def, Option.some.injEq] at hc
          obtain ⟨x', hx, hc⟩ := hc
          cases i <;> simp only [I.norm] at hc <;> cases hc
          exact (snd_cap S F hop hcal hat hargs ht hx h).wp hk
        · cases hc
      · cases hc
    · rename_i hcal
      simp only [Option.bind_eq_bind, Option.bind_eq_some_iff, Option.pure_def, Option.some.injEq] at hc
      obtain ⟨ys, hys, hc⟩ := hc
      cases i <;> simp only [I.norm] at hc <;> cases hc
      exact (snd_max S F hop hcal hys h).wp hk
    · rename_i hcal
      simp only [Option.bind_eq_bind, Option.bind_eq_some_iff, Option.pure_def, Option.some.injEq] at hc
      obtain ⟨ys, hys, hc⟩ := hc
      cases i <;> simp only [I.norm] at hc <;> cases hc
      exact (snd_min S F hop hcal hys h).wp hk
    · cases hc
  | makeInterface t x =>
    simp only [zcE, hop, Option.some.injEq] at hc
    cases i <;> simp only [I.norm] at hc <;> cases hc
    exact h.elim
  | panic x =>
    simp only [zcE, hop, Option.some.injEq] at hc
    cases i <;> simp only [I.norm] at hc <;> cases hc
    exact h.elim
  | _ => simp [zcE, hop] at hc
end

end Go.AW

/- Operations that only reckon: what they come to does not hang on their place among the others. -/
set_option linter.unusedSimpArgs false
set_option linter.unusedVariables false
namespace Go.AW
variable {P : Program}

theorem zl.mono0 {f : FuncId} {as0 : List AV} {σ : List zd} {K K' : AV → List zd → Prop} (hk : ∀ r σ', K r σ' → K' r σ') (h : zl P f as0 σ K) : zl P f as0 σ K' :=
  ⟨h.1, fun L w vs S hv => Calls.mono (h.2 L w vs S hv) fun e w' he => by
    cases e with
    | returned v => obtain ⟨L', σ', r, a, b, c, d⟩ := he; exact ⟨L', σ', r, a, b, c, hk _ _ d⟩
    | panicked _ => exact he
    | outgrown => exact he⟩

theorem binA_mono {op : BinOp} {e : EK} {x y : AV} {K K' : AV → Prop} (hk : ∀ a, K a → K' a) (h : zdD op e x y K) : zdD op e x y K' := by
  unfold zdD at *
  repeat' split at h
  all_goals (first | exact h.elim | exact hk _ h | exact ⟨h.1, hk _ h.2⟩ | exact ⟨h.1, h.2.1, hk _ h.2.2⟩ | skip)
  all_goals (simp only [*]; try exact ⟨h.1, hk _ h.2⟩)
  all_goals grind
theorem boxC_mono (x : AV) {σ : List zd} {K K' : KT} (hk : ∀ a s, K a s → K' a s) (h : zbf x σ K) : zbf x σ K' := by
  unfold zbf at *
  repeat' split at h
  all_goals (first | exact h.elim | skip)
  all_goals (revert h; try simp only [*, if_true, if_false, Bool.false_eq_true, reduceIte, ite_true, ite_false])
  all_goals (intro h)
  all_goals (repeat (refine ⟨h.1, ?_⟩; replace h := h.2))
  all_goals (first | exact hk _ _ h | exact h.elim)
theorem buildC_mono (o : Option (List AV)) {σ : List zd} {K K' : KT} (hk : ∀ a s, K a s → K' a s) (h : zB o σ K) : zB o σ K' := by
  unfold zB at *
  repeat' split at h
  all_goals (first | exact h.elim | skip)
  all_goals (revert h; try simp only [*, if_true, if_false, Bool.false_eq_true, reduceIte, ite_true, ite_false])
  all_goals (intro h)
  all_goals (repeat (refine ⟨h.1, ?_⟩; replace h := h.2))
  all_goals (first | exact hk _ _ h | exact h.elim)
theorem zuG (mu : Bool) (s n : Nat) (o : Option (List AV)) {σ : List zd} {K K' : KT} (hk : ∀ a s, K a s → K' a s) (h : zj mu s n o σ K) : zj mu s n o σ K' := by
  unfold zj at *
  repeat' split at h
  all_goals (first | exact h.elim | skip)
  all_goals (revert h; try simp only [*, if_true, if_false, Bool.false_eq_true, reduceIte, ite_true, ite_false])
  all_goals (intro h)
  all_goals (repeat (refine ⟨h.1, ?_⟩; replace h := h.2))
  all_goals (first | exact hk _ _ h | exact h.elim)
theorem loadC_mono (agg : Bool) (n : Nat) (x : AV) {σ : List zd} {K K' : KT} (hk : ∀ a s, K a s → K' a s) (h : zg agg n x σ K) : zg agg n x σ K' := by
  unfold zg at *
  repeat' split at h
  all_goals (first | exact h.elim | skip)
  all_goals (revert h; try simp only [*, if_true, if_false, Bool.false_eq_true, reduceIte, ite_true, ite_false])
  all_goals (intro h)
  all_goals (repeat (refine ⟨h.1, ?_⟩; replace h := h.2))
  all_goals (first | exact hk _ _ h | exact h.elim)
theorem storeC_mono (n : Nat) (x y : AV) {σ : List zd} {K K' : KT} (hk : ∀ a s, K a s → K' a s) (h : zf n x y σ K) : zf n x y σ K' := by
  unfold zf at *
  repeat' split at h
  all_goals (first | exact h.elim | skip)
  all_goals (revert h; try simp only [*, if_true, if_false, Bool.false_eq_true, reduceIte, ite_true, ite_false])
  all_goals (intro h)
  all_goals (repeat (refine ⟨h.1, ?_⟩; replace h := h.2))
  all_goals (first | exact hk _ _ h | exact h.elim)
theorem nilC_mono (x : AV) {σ : List zd} {K K' : KT} (hk : ∀ a s, K a s → K' a s) (h : zbY x σ K) : zbY x σ K' := by
  unfold zbY at *
  repeat' split at h
  all_goals (first | exact h.elim | skip)
  all_goals (revert h; try simp only [*, if_true, if_false, Bool.false_eq_true, reduceIte, ite_true, ite_false])
  all_goals (intro h)
  all_goals (repeat (refine ⟨h.1, ?_⟩; replace h := h.2))
  all_goals (first | exact hk _ _ h | exact h.elim)
theorem convC_mono (c : CK) (x : AV) {σ : List zd} {K K' : KT} (hk : ∀ a s, K a s → K' a s) (h : zau c x σ K) : zau c x σ K' := by
  unfold zau at *
  repeat' split at h
  all_goals (first | exact h.elim | skip)
  all_goals (revert h; try simp only [*, if_true, if_false, Bool.false_eq_true, reduceIte, ite_true, ite_false])
  all_goals (intro h)
  all_goals (repeat (refine ⟨h.1, ?_⟩; replace h := h.2))
  all_goals (first | exact hk _ _ h | exact h.elim)
theorem slcC_mono (k : SK) (x : AV) (lo hi mx : Option AV) {σ : List zd} {K K' : KT} (hk : ∀ a s, K a s → K' a s) (h : zdn k x lo hi mx σ K) : zdn k x lo hi mx σ K' := by
  unfold zdn at *
  repeat' split at h
  all_goals (first | exact h.elim | skip)
  all_goals (revert h; try simp only [*, if_true, if_false, Bool.false_eq_true, reduceIte, ite_true, ite_false])
  all_goals (intro h)
  all_goals (repeat (refine ⟨h.1, ?_⟩; replace h := h.2))
  all_goals (first | exact hk _ _ h | exact h.elim)
theorem faddrC_mono (off : Nat) (x : AV) {σ : List zd} {K K' : KT} (hk : ∀ a s, K a s → K' a s) (h : zb off x σ K) : zb off x σ K' := by
  unfold zb at *
  repeat' split at h
  all_goals (first | exact h.elim | skip)
  all_goals (revert h; try simp only [*, if_true, if_false, Bool.false_eq_true, reduceIte, ite_true, ite_false])
  all_goals (intro h)
  all_goals (repeat (refine ⟨h.1, ?_⟩; replace h := h.2))
  all_goals (first | exact hk _ _ h | exact h.elim)
theorem fieldC_mono (agg : Bool) (off n : Nat) (x : AV) {σ : List zd} {K K' : KT} (hk : ∀ a s, K a s → K' a s) (h : zae agg off n x σ K) : zae agg off n x σ K' := by
  unfold zae at *
  repeat' split at h
  all_goals (first | exact h.elim | skip)
  all_goals (revert h; try simp only [*, if_true, if_false, Bool.false_eq_true, reduceIte, ite_true, ite_false])
  all_goals (intro h)
  all_goals (repeat (refine ⟨h.1, ?_⟩; replace h := h.2))
  all_goals (first | exact hk _ _ h | exact h.elim)
theorem iaddrC_mono (arr : Option Nat) (sz : Nat) (x i : AV) {σ : List zd} {K K' : KT} (hk : ∀ a s, K a s → K' a s) (h : zL arr sz x i σ K) : zL arr sz x i σ K' := by
  unfold zL at *
  repeat' split at h
  all_goals (first | exact h.elim | skip)
  all_goals (revert h; try simp only [*, if_true, if_false, Bool.false_eq_true, reduceIte, ite_true, ite_false])
  all_goals (intro h)
  all_goals (repeat (refine ⟨h.1, ?_⟩; replace h := h.2))
  all_goals (first | exact hk _ _ h | exact h.elim)
theorem idxSC_mono (x i : AV) {σ : List zd} {K K' : KT} (hk : ∀ a s, K a s → K' a s) (h : zaN x i σ K) : zaN x i σ K' := by
  unfold zaN at *
  repeat' split at h
  all_goals (first | exact h.elim | skip)
  all_goals (revert h; try simp only [*, if_true, if_false, Bool.false_eq_true, reduceIte, ite_true, ite_false])
  all_goals (intro h)
  all_goals (repeat (refine ⟨h.1, ?_⟩; replace h := h.2))
  all_goals (first | exact hk _ _ h | exact h.elim)
theorem idxAC_mono (agg : Bool) (n sz : Nat) (x i : AV) {σ : List zd} {K K' : KT} (hk : ∀ a s, K a s → K' a s) (h : zaO agg n sz x i σ K) : zaO agg n sz x i σ K' := by
  unfold zaO at *
  repeat' split at h
  all_goals (first | exact h.elim | skip)
  all_goals (revert h; try simp only [*, if_true, if_false, Bool.false_eq_true, reduceIte, ite_true, ite_false])
  all_goals (intro h)
  all_goals (repeat (refine ⟨h.1, ?_⟩; replace h := h.2))
  all_goals (first | exact hk _ _ h | exact h.elim)
theorem zuP (x : AV) (k : Nat) {σ : List zd} {K K' : KT} (hk : ∀ a s, K a s → K' a s) (h : zc x k σ K) : zc x k σ K' := by
  unfold zc at *
  repeat' split at h
  all_goals (first | exact h.elim | skip)
  all_goals (revert h; try simp only [*, if_true, if_false, Bool.false_eq_true, reduceIte, ite_true, ite_false])
  all_goals (intro h)
  all_goals (repeat (refine ⟨h.1, ?_⟩; replace h := h.2))
  all_goals (first | exact hk _ _ h | exact h.elim)
theorem lenC_mono (k : LK) (x : AV) {σ : List zd} {K K' : KT} (hk : ∀ a s, K a s → K' a s) (h : zaz k x σ K) : zaz k x σ K' := by
  unfold zaz at *
  repeat' split at h
  all_goals (first | exact h.elim | skip)
  all_goals (revert h; try simp only [*, if_true, if_false, Bool.false_eq_true, reduceIte, ite_true, ite_false])
  all_goals (intro h)
  all_goals (repeat (refine ⟨h.1, ?_⟩; replace h := h.2))
  all_goals (first | exact hk _ _ h | exact h.elim)
theorem appendC_mono (sz bytes : Nat) (x y : AV) {σ : List zd} {K K' : KT} (hk : ∀ a s, K a s → K' a s) (h : zE sz bytes x y σ K) : zE sz bytes x y σ K' := by
  unfold zE at *
  repeat' split at h
  all_goals (first | exact h.elim | skip)
  all_goals (revert h; try simp only [*, if_true, if_false, Bool.false_eq_true, reduceIte, ite_true, ite_false])
  all_goals (intro h)
  all_goals (repeat (refine ⟨h.1, ?_⟩; replace h := h.2))
  all_goals (first | exact hk _ _ h | exact h.elim)
theorem zqy (sz bytes : Nat) (x : AV) (m : Nat) (ys : List AV) {σ : List zd} {K K' : KT} (hk : ∀ a s, K a s → K' a s) (h : zqz sz bytes x m ys σ K) : zqz sz bytes x m ys σ K' := by
  unfold zqz at *
  repeat' split at h
  all_goals (first | exact h.elim | skip)
  all_goals (revert h; try simp only [*, if_true, if_false, Bool.false_eq_true, reduceIte, ite_true, ite_false])
  all_goals (intro h)
  all_goals (repeat (refine ⟨h.1, ?_⟩; replace h := h.2))
  all_goals (first | exact hk _ _ h | exact h.elim)
theorem zvg (sz bytes : Nat) (x y : AV) {σ : List zd} {K K' : KT} (hk : ∀ a s, K a s → K' a s) (h : zfA sz bytes x y σ K) : zfA sz bytes x y σ K' := by
  unfold zfA at *
  split at h
  · split at h
    · exact ⟨h.1, h.2.1, h.2.2.1, zqy _ _ _ _ _ hk h.2.2.2⟩
    · exact h.elim
  · split at h
    · exact ⟨h.1, zqy _ _ _ _ _ hk h.2⟩
    · exact h.elim
theorem capC_mono (x : AV) {σ : List zd} {K K' : KT} (hk : ∀ a s, K a s → K' a s) (h : capC x σ K) : capC x σ K' := by
  unfold capC at *
  split at h
  · exact hk _ _ h
  · exact h.elim
theorem appzC_mono (sz bytes : Nat) (z : List AV) (x n : AV) {σ : List zd} {K K' : KT} (hk : ∀ a s, K a s → K' a s) (h : appzC sz bytes z x n σ K) : appzC sz bytes z x n σ K' := by
  unfold appzC at *
  split at h
  · exact ⟨h.1, zqy _ _ _ _ _ hk h.2⟩
  · exact h.elim
theorem maxC_mono (xs : List AV) {σ : List zd} {K K' : KT} (hk : ∀ a s, K a s → K' a s) (h : zdz xs σ K) : zdz xs σ K' := by
  unfold zdz at *
  repeat' split at h
  all_goals (first | exact h.elim | skip)
  all_goals (revert h; try simp only [*, if_true, if_false, Bool.false_eq_true, reduceIte, ite_true, ite_false])
  all_goals (intro h)
  all_goals (repeat (refine ⟨h.1, ?_⟩; replace h := h.2))
  all_goals (first | exact hk _ _ h | exact h.elim)
theorem minC_mono (xs : List AV) {σ : List zd} {K K' : KT} (hk : ∀ a s, K a s → K' a s) (h : zdA xs σ K) : zdA xs σ K' := by
  unfold zdA at *
  repeat' split at h
  all_goals (first | exact h.elim | skip)
  all_goals (revert h; try simp only [*, if_true, if_false, Bool.false_eq_true, reduceIte, ite_true, ite_false])
  all_goals (intro h)
  all_goals (repeat (refine ⟨h.1, ?_⟩; replace h := h.2))
  all_goals (first | exact hk _ _ h | exact h.elim)
theorem rangeC_mono (x : AV) {σ : List zd} {K K' : KT} (hk : ∀ a s, K a s → K' a s) (h : zai x σ K) : zai x σ K' := by
  unfold zai at *
  repeat' split at h
  all_goals (first | exact h.elim | skip)
  all_goals (revert h; try simp only [*, if_true, if_false, Bool.false_eq_true, reduceIte, ite_true, ite_false])
  all_goals (intro h)
  all_goals (repeat (refine ⟨h.1, ?_⟩; replace h := h.2))
  all_goals (first | exact hk _ _ h | exact h.elim)
theorem nextC_mono (x : AV) {σ : List zd} {K K' : KT} (hk : ∀ a s, K a s → K' a s) (h : zpd x σ K) : zpd x σ K' := by
  unfold zpd at *
  repeat' split at h
  all_goals (first | exact h.elim | skip)
  all_goals (revert h; try simp only [*, if_true, if_false, Bool.false_eq_true, reduceIte, ite_true, ite_false])
  all_goals (intro h)
  all_goals (repeat (refine ⟨h.1, ?_⟩; replace h := h.2))
  all_goals (first | exact hk _ _ h | exact h.elim)
theorem isnilC_mono (neg : Bool) (x : AV) {σ : List zd} {K K' : KT} (hk : ∀ a s, K a s → K' a s) (h : zY neg x σ K) : zY neg x σ K' := by
  unfold zY at *
  repeat' split at h
  all_goals (first | exact h.elim | exact ⟨hk _ _ h.1, hk _ _ h.2⟩ | exact hk _ _ h | exact ⟨fun e => ⟨hk _ _ (h.1 e).1, hk _ _ (h.1 e).2⟩, fun e => hk _ _ (h.2 e)⟩)
theorem mgetC_mono (kk : KK) (ok : Bool) (z m k : AV) {σ : List zd} {K K' : KT} (hk : ∀ a s, K a s → K' a s) (h : zaK kk ok z m k σ K) : zaK kk ok z m k σ K' := by
  unfold zaK at *
  split at h
  · refine ⟨h.1, ?_⟩
    replace h := h.2
    split at h <;> first | exact hk _ _ h | exact h.elim
  · exact h.elim
theorem msetC_mono (kk : KK) (m k x : AV) {σ : List zd} {K K' : KT} (hk : ∀ a s, K a s → K' a s) (h : zaV kk m k x σ K) : zaV kk m k x σ K' := by
  unfold zaV at *
  split at h
  · split at h
    · refine ⟨h.1, ?_⟩
      replace h := h.2
      split at h <;> first | exact hk _ _ h | exact h.elim
    · exact h.elim
  · exact h.elim
theorem mdelC_mono (kk : KK) (m k : AV) {σ : List zd} {K K' : KT} (hk : ∀ a s, K a s → K' a s) (h : zbj kk m k σ K) : zbj kk m k σ K' := by
  unfold zbj at *
  split at h
  · split at h
    · refine ⟨h.1, ?_⟩
      replace h := h.2
      split at h <;> first | exact hk _ _ h | exact h.elim
    · exact h.elim
  · exact ⟨h.1, hk _ _ h.2⟩
  · exact h.elim
theorem zui {i : I} {fr : zao} {σ : List zd} {K K' : KT} (hk : ∀ a s, K a s → K' a s) (h : zba P i fr σ K) : zba P i fr σ K' := by
  cases i <;> simp only [zba] at h ⊢
  case mv => exact hk _ _ h
  case pick => unfold ztb at *; split at h <;> first | exact ⟨fun e => hk _ _ (h.1 e), fun e => hk _ _ (h.2 e)⟩ | exact h
  case alloc => exact hk _ _ h
  case boxi => exact boxC_mono _ hk h
  case build => exact buildC_mono _ hk h
  case mkslice => exact zuG _ _ _ _ hk h
  case load => exact loadC_mono _ _ _ hk h
  case store => exact storeC_mono _ _ _ hk h
  case nilchk => exact nilC_mono _ hk h
  case bin => exact binA_mono (fun a => hk a σ) h
  case un => unfold unA at *; split at h <;> first | exact hk _ _ h | exact h
  case conv => exact convC_mono _ _ hk h
  case slc => exact slcC_mono _ _ _ _ _ hk h
  case faddr => exact faddrC_mono _ _ hk h
  case field => exact fieldC_mono _ _ _ _ hk h
  case iaddr => exact iaddrC_mono _ _ _ _ hk h
  case idxS => exact idxSC_mono _ _ hk h
  case idxA => exact idxAC_mono _ _ _ _ _ hk h
  case extract => exact zuP _ _ hk h
  case len => exact lenC_mono _ _ hk h
  case append mu _ _ _ _ _ =>
    cases mu
    · exact appendC_mono _ _ _ _ hk h
    · exact zvg _ _ _ _ hk h
  case maxi => exact maxC_mono _ hk h
  case mini => exact minC_mono _ hk h
  case rangeS => exact rangeC_mono _ hk h
  case nextS => exact nextC_mono _ hk h
  case isnil => exact isnilC_mono _ _ hk h
  case mkmap => exact hk _ _ h
  case mget => exact mgetC_mono _ _ _ _ _ hk h
  case mset => exact msetC_mono _ _ _ _ hk h
  case mdel => exact mdelC_mono _ _ _ hk h
  case call raw _ _ => cases raw <;> exact zl.mono0 hk h
  case callv => unfold zam at *; split at h <;> first | exact zl.mono0 hk h | exact h
  case mkfn => exact hk _ _ h
  case cap => exact capC_mono _ hk h
  case appz => exact appzC_mono _ _ _ _ _ hk h

def Opd.slots : Opd → List Nat
  | .tmp t => [t]
  | .lit _ => []
def osl : Option Opd → List Nat
  | some x => x.slots
  | none => []
def lsl (l : List Opd) : List Nat := l.flatMap Opd.slots
def psl (l : List (Nat × Nat × Opd)) : List Nat := l.flatMap fun p => p.2.2.slots
def I.reads : I → List Nat
  | .mv x | .boxi x | .load _ _ x | .nilchk x | .un _ x | .conv _ x | .faddr _ x | .field _ _ _ x | .extract x _ | .len _ x | .rangeS x | .nextS x | .isnil _ x | .cap x => x.slots
  | .bad => []
  | .appz _ _ _ x n => x.slots ++ n.slots
  | .mkmap => []
  | .mget _ _ _ m k => m.slots ++ k.slots
  | .mset _ m k x => m.slots ++ k.slots ++ x.slots
  | .mdel _ m k => m.slots ++ k.slots
  | .pick c a b => c.slots ++ a.slots ++ b.slots
  | .alloc _ => []
  | .build _ ps => psl ps
  | .mkslice _ _ _ _ ps => psl ps
  | .store _ a x => a.slots ++ x.slots
  | .bin _ _ x y => x.slots ++ y.slots
  | .slc _ x lo hi mx => x.slots ++ osl lo ++ osl hi ++ osl mx
  | .iaddr _ _ x i => x.slots ++ i.slots
  | .idxS x i => x.slots ++ i.slots
  | .idxA _ _ _ x i => x.slots ++ i.slots
  | .append _ _ _ _ x y => x.slots ++ y.slots
  | .maxi xs => lsl xs
  | .mini xs => lsl xs
  | .call _ _ xs => lsl xs
  | .callv f xs => f.slots ++ lsl xs
  | .mkfn _ xs ys => lsl xs ++ lsl ys
def Ai.reads (x : Ai) : List Nat :=
  match x.g with
  | some (s, _) => s :: x.i.reads
  | none => x.i.reads

theorem zbQ {fr fr' : zao} {x : Opd} (h : ∀ t ∈ x.slots, zgN fr t = zgN fr' t) : ev fr x = ev fr' x := by
  cases x with
  | tmp t => exact h t (by simp [Opd.slots])
  | lit a => rfl
theorem oev_ext {fr fr' : zao} {x : Option Opd} (h : ∀ t ∈ osl x, zgN fr t = zgN fr' t) : x.map (ev fr) = x.map (ev fr') := by
  cases x with
  | none => rfl
  | some x => simp only [Option.map_some]; rw [zbQ h]
theorem zoz {fr fr' : zao} {l : List Opd} (h : ∀ t ∈ lsl l, zgN fr t = zgN fr' t) : l.map (ev fr) = l.map (ev fr') :=
  List.map_congr_left fun x hx => zbQ fun t ht => h t (List.mem_flatMap.2 ⟨x, hx, ht⟩)
theorem zsi {fr fr' : zao} : ∀ {l : List (Nat × Nat × Opd)} {cs : List AV}, (∀ t ∈ psl l, zgN fr t = zgN fr' t) → zrv fr cs l = zrv fr' cs l
  | [], _, _ => rfl
  | (off, s, x) :: l, cs, h => by
    have e : ev fr x = ev fr' x := zbQ fun t ht => h t (by simp [psl, ht])
    simp only [zrv]
    rw [e]
    split
    · split
      · exact zsi fun t ht => h t (by simp only [psl, List.flatMap_cons, List.mem_append] at ht ⊢; exact .inr ht)
      · rfl
    · rfl

theorem zpH {i : I} {fr fr' : zao} {σ : List zd} {K : KT} (h : ∀ t ∈ i.reads, zgN fr t = zgN fr' t) : zba P i fr σ K = zba P i fr' σ K := by
  cases i <;> simp only [zba, I.reads, List.mem_append] at h ⊢
  case mv x => rw [zbQ h]
  case boxi x => rw [zbQ h]
  case load x => rw [zbQ h]
  case nilchk x => rw [zbQ h]
  case un x => rw [zbQ h]
  case conv x => rw [zbQ h]
  case faddr x => rw [zbQ h]
  case field x => rw [zbQ h]
  case extract x => rw [zbQ h]
  case len x => rw [zbQ h]
  case rangeS x => rw [zbQ h]
  case nextS x => rw [zbQ h]
  case isnil x => rw [zbQ h]
  case cap x => rw [zbQ h]
  case appz x n => rw [zbQ (x := x) fun t ht => h t (.inl ht), zbQ (x := n) fun t ht => h t (.inr ht)]
  case mget m k => rw [zbQ (x := m) fun t ht => h t (.inl ht), zbQ (x := k) fun t ht => h t (.inr ht)]
  case mset m k x => rw [zbQ (x := m) fun t ht => h t (.inl (.inl ht)), zbQ (x := k) fun t ht => h t (.inl (.inr ht)), zbQ (x := x) fun t ht => h t (.inr ht)]
  case mdel m k => rw [zbQ (x := m) fun t ht => h t (.inl ht), zbQ (x := k) fun t ht => h t (.inr ht)]
  case pick c a b => rw [zbQ (x := c) fun t ht => h t (.inl (.inl ht)), zbQ (x := a) fun t ht => h t (.inl (.inr ht)), zbQ (x := b) fun t ht => h t (.inr ht)]
  case build => rw [zsi h]
  case mkslice => rw [zsi h]
  case store a x => rw [zbQ (x := a) fun t ht => h t (.inl ht), zbQ (x := x) fun t ht => h t (.inr ht)]
  case bin x y => rw [zbQ (x := x) fun t ht => h t (.inl ht), zbQ (x := y) fun t ht => h t (.inr ht)]
  case slc x lo hi mx => rw [zbQ (x := x) fun t ht => h t (.inl (.inl (.inl ht))), oev_ext (x := lo) fun t ht => h t (.inl (.inl (.inr ht))), oev_ext (x := hi) fun t ht => h t (.inl (.inr ht)), oev_ext (x := mx) fun t ht => h t (.inr ht)]
  case iaddr x y => rw [zbQ (x := x) fun t ht => h t (.inl ht), zbQ (x := y) fun t ht => h t (.inr ht)]
  case idxS x y => rw [zbQ (x := x) fun t ht => h t (.inl ht), zbQ (x := y) fun t ht => h t (.inr ht)]
  case idxA x y => rw [zbQ (x := x) fun t ht => h t (.inl ht), zbQ (x := y) fun t ht => h t (.inr ht)]
  case append x y => rw [zbQ (x := x) fun t ht => h t (.inl ht), zbQ (x := y) fun t ht => h t (.inr ht)]
  case maxi => rw [zoz h]
  case mini => rw [zoz h]
  case call raw f xs =>
    have : xs.map (fun x => dm (ev fr x)) = xs.map (fun x => dm (ev fr' x)) := by
      have := congrArg (List.map dm) (zoz h)
      simpa [List.map_map, Function.comp_def] using this
    rw [this, zoz h]
  case callv f xs =>
    have : xs.map (fun x => dm (ev fr x)) = xs.map (fun x => dm (ev fr' x)) := by
      have := congrArg (List.map dm) (zoz (l := xs) fun t ht => h t (.inr ht))
      simpa [List.map_map, Function.comp_def] using this
    rw [this, zbQ (x := f) fun t ht => h t (.inl ht)]
  case mkfn f xs ys => rw [zoz (l := xs) fun t ht => h t (.inl ht), zoz (l := ys) fun t ht => h t (.inr ht)]

def I.quiet : I → Bool
  | .mv _ | .pick .. | .build .. | .mkslice false .. | .load .. | .nilchk _ | .bin .. | .un .. | .conv .. | .slc .. | .faddr .. | .field .. | .iaddr .. | .idxS .. | .idxA .. | .extract .. | .maxi _ | .mini _ | .mget .. => true
  | .len k _ => match k with | .map => false | _ => true
  | _ => false
def I.at? : I → Option Opd
  | .load _ _ x => some x
  | .mget _ _ _ m _ => some m
  | _ => none
def zZ (a : AV) (σ σ' : List zd) : Prop :=
  match a with
  | .box id _ => σ'[id]? = σ[id]?
  | .map id => σ'[id]? = σ[id]?
  | .rpt t _ _ => σ'[t]? = σ[t]?
  | _ => True

theorem binA_quiet {op : BinOp} {e : EK} {x y : AV} {K : AV → Prop} (h : zdD op e x y K) : ∃ v, K v ∧ ∀ K' : AV → Prop, K' v → zdD op e x y K' := by
  unfold zdD at *
  repeat' split at h
  all_goals (first | exact h.elim | exact h.2.elim | exact ⟨_, h, fun _ h' => h'⟩ | exact ⟨_, h.2, fun _ h' => ⟨h.1, h'⟩⟩ | exact ⟨_, h.2.2, fun _ h' => ⟨h.1, h.2.1, h'⟩⟩ | skip)
  all_goals (simp only [*] at h ⊢)
  all_goals (first | exact ⟨_, h, fun _ h' => h'⟩ | exact ⟨_, h.2, fun _ h' => ⟨h.1, h'⟩⟩ | skip)
theorem buildC_quiet (o : Option (List AV)) {σ : List zd} {K : KT} (h : zB o σ K) : ∃ v, K v σ ∧ ∀ (σ' : List zd) (K' : KT), K' v σ' → zB o σ' K' := by
  unfold zB at *
  repeat' split at h
  all_goals (first | exact h.elim | skip)
  all_goals (revert h; try simp only [*, if_true, if_false, Bool.false_eq_true, reduceIte, ite_true, ite_false])
  all_goals (intro h)
  all_goals (first | exact h.2.elim | exact h.2.2.elim | exact ⟨_, h, fun _ _ h' => h'⟩ | exact ⟨_, h.2, fun _ _ h' => ⟨h.1, h'⟩⟩ | exact ⟨_, h.2.2, fun _ _ h' => ⟨h.1, h.2.1, h'⟩⟩ | exact ⟨_, h.2.2.2, fun _ _ h' => ⟨h.1, h.2.1, h.2.2.1, h'⟩⟩ | exact ⟨_, h.2.2.2.2, fun _ _ h' => ⟨h.1, h.2.1, h.2.2.1, h.2.2.2.1, h'⟩⟩ | exact ⟨_, h.2.2.2.2.2, fun _ _ h' => ⟨h.1, h.2.1, h.2.2.1, h.2.2.2.1, h.2.2.2.2.1, h'⟩⟩ | exact ⟨_, h.2.2.2.2.2.2, fun _ _ h' => ⟨h.1, h.2.1, h.2.2.1, h.2.2.2.1, h.2.2.2.2.1, h.2.2.2.2.2.1, h'⟩⟩)
theorem nilC_quiet (x : AV) {σ : List zd} {K : KT} (h : zbY x σ K) : ∃ v, K v σ ∧ ∀ (σ' : List zd) (K' : KT), K' v σ' → zbY x σ' K' := by
  unfold zbY at *
  repeat' split at h
  all_goals (first | exact h.elim | skip)
  all_goals (revert h; try simp only [*, if_true, if_false, Bool.false_eq_true, reduceIte, ite_true, ite_false])
  all_goals (intro h)
  all_goals (first | exact h.2.elim | exact h.2.2.elim | exact ⟨_, h, fun _ _ h' => h'⟩ | exact ⟨_, h.2, fun _ _ h' => ⟨h.1, h'⟩⟩ | exact ⟨_, h.2.2, fun _ _ h' => ⟨h.1, h.2.1, h'⟩⟩ | exact ⟨_, h.2.2.2, fun _ _ h' => ⟨h.1, h.2.1, h.2.2.1, h'⟩⟩ | exact ⟨_, h.2.2.2.2, fun _ _ h' => ⟨h.1, h.2.1, h.2.2.1, h.2.2.2.1, h'⟩⟩ | exact ⟨_, h.2.2.2.2.2, fun _ _ h' => ⟨h.1, h.2.1, h.2.2.1, h.2.2.2.1, h.2.2.2.2.1, h'⟩⟩ | exact ⟨_, h.2.2.2.2.2.2, fun _ _ h' => ⟨h.1, h.2.1, h.2.2.1, h.2.2.2.1, h.2.2.2.2.1, h.2.2.2.2.2.1, h'⟩⟩)
theorem convC_quiet (c : CK) (x : AV) {σ : List zd} {K : KT} (h : zau c x σ K) : ∃ v, K v σ ∧ ∀ (σ' : List zd) (K' : KT), K' v σ' → zau c x σ' K' := by
  unfold zau at *
  repeat' split at h
  all_goals (first | exact h.elim | skip)
  all_goals (revert h; try simp only [*, if_true, if_false, Bool.false_eq_true, reduceIte, ite_true, ite_false])
  all_goals (intro h)
  all_goals (first | exact h.2.elim | exact h.2.2.elim | exact ⟨_, h, fun _ _ h' => h'⟩ | exact ⟨_, h.2, fun _ _ h' => ⟨h.1, h'⟩⟩ | exact ⟨_, h.2.2, fun _ _ h' => ⟨h.1, h.2.1, h'⟩⟩ | exact ⟨_, h.2.2.2, fun _ _ h' => ⟨h.1, h.2.1, h.2.2.1, h'⟩⟩ | exact ⟨_, h.2.2.2.2, fun _ _ h' => ⟨h.1, h.2.1, h.2.2.1, h.2.2.2.1, h'⟩⟩ | exact ⟨_, h.2.2.2.2.2, fun _ _ h' => ⟨h.1, h.2.1, h.2.2.1, h.2.2.2.1, h.2.2.2.2.1, h'⟩⟩ | exact ⟨_, h.2.2.2.2.2.2, fun _ _ h' => ⟨h.1, h.2.1, h.2.2.1, h.2.2.2.1, h.2.2.2.2.1, h.2.2.2.2.2.1, h'⟩⟩)
theorem slcC_quiet (k : SK) (x : AV) (lo hi mx : Option AV) {σ : List zd} {K : KT} (h : zdn k x lo hi mx σ K) : ∃ v, K v σ ∧ ∀ (σ' : List zd) (K' : KT), K' v σ' → zdn k x lo hi mx σ' K' := by
  unfold zdn at *
  repeat' split at h
  all_goals (first | exact h.elim | skip)
  all_goals (revert h; try simp only [*, if_true, if_false, Bool.false_eq_true, reduceIte, ite_true, ite_false])
  all_goals (intro h)
  all_goals (first | exact h.2.elim | exact h.2.2.elim | exact ⟨_, h, fun _ _ h' => h'⟩ | exact ⟨_, h.2, fun _ _ h' => ⟨h.1, h'⟩⟩ | exact ⟨_, h.2.2, fun _ _ h' => ⟨h.1, h.2.1, h'⟩⟩ | exact ⟨_, h.2.2.2, fun _ _ h' => ⟨h.1, h.2.1, h.2.2.1, h'⟩⟩ | exact ⟨_, h.2.2.2.2, fun _ _ h' => ⟨h.1, h.2.1, h.2.2.1, h.2.2.2.1, h'⟩⟩ | exact ⟨_, h.2.2.2.2.2, fun _ _ h' => ⟨h.1, h.2.1, h.2.2.1, h.2.2.2.1, h.2.2.2.2.1, h'⟩⟩ | exact ⟨_, h.2.2.2.2.2.2, fun _ _ h' => ⟨h.1, h.2.1, h.2.2.1, h.2.2.2.1, h.2.2.2.2.1, h.2.2.2.2.2.1, h'⟩⟩)
theorem faddrC_quiet (off : Nat) (x : AV) {σ : List zd} {K : KT} (h : zb off x σ K) : ∃ v, K v σ ∧ ∀ (σ' : List zd) (K' : KT), K' v σ' → zb off x σ' K' := by
  unfold zb at *
  repeat' split at h
  all_goals (first | exact h.elim | skip)
  all_goals (revert h; try simp only [*, if_true, if_false, Bool.false_eq_true, reduceIte, ite_true, ite_false])
  all_goals (intro h)
  all_goals (first | exact h.2.elim | exact h.2.2.elim | exact ⟨_, h, fun _ _ h' => h'⟩ | exact ⟨_, h.2, fun _ _ h' => ⟨h.1, h'⟩⟩ | exact ⟨_, h.2.2, fun _ _ h' => ⟨h.1, h.2.1, h'⟩⟩ | exact ⟨_, h.2.2.2, fun _ _ h' => ⟨h.1, h.2.1, h.2.2.1, h'⟩⟩ | exact ⟨_, h.2.2.2.2, fun _ _ h' => ⟨h.1, h.2.1, h.2.2.1, h.2.2.2.1, h'⟩⟩ | exact ⟨_, h.2.2.2.2.2, fun _ _ h' => ⟨h.1, h.2.1, h.2.2.1, h.2.2.2.1, h.2.2.2.2.1, h'⟩⟩ | exact ⟨_, h.2.2.2.2.2.2, fun _ _ h' => ⟨h.1, h.2.1, h.2.2.1, h.2.2.2.1, h.2.2.2.2.1, h.2.2.2.2.2.1, h'⟩⟩)
theorem fieldC_quiet (agg : Bool) (off n : Nat) (x : AV) {σ : List zd} {K : KT} (h : zae agg off n x σ K) : ∃ v, K v σ ∧ ∀ (σ' : List zd) (K' : KT), K' v σ' → zae agg off n x σ' K' := by
  unfold zae at *
  repeat' split at h
  all_goals (first | exact h.elim | skip)
  all_goals (revert h; try simp only [*, if_true, if_false, Bool.false_eq_true, reduceIte, ite_true, ite_false])
  all_goals (intro h)
  all_goals (first | exact h.2.elim | exact h.2.2.elim | exact ⟨_, h, fun _ _ h' => h'⟩ | exact ⟨_, h.2, fun _ _ h' => ⟨h.1, h'⟩⟩ | exact ⟨_, h.2.2, fun _ _ h' => ⟨h.1, h.2.1, h'⟩⟩ | exact ⟨_, h.2.2.2, fun _ _ h' => ⟨h.1, h.2.1, h.2.2.1, h'⟩⟩ | exact ⟨_, h.2.2.2.2, fun _ _ h' => ⟨h.1, h.2.1, h.2.2.1, h.2.2.2.1, h'⟩⟩ | exact ⟨_, h.2.2.2.2.2, fun _ _ h' => ⟨h.1, h.2.1, h.2.2.1, h.2.2.2.1, h.2.2.2.2.1, h'⟩⟩ | exact ⟨_, h.2.2.2.2.2.2, fun _ _ h' => ⟨h.1, h.2.1, h.2.2.1, h.2.2.2.1, h.2.2.2.2.1, h.2.2.2.2.2.1, h'⟩⟩)
theorem iaddrC_quiet (arr : Option Nat) (sz : Nat) (x i : AV) {σ : List zd} {K : KT} (h : zL arr sz x i σ K) : ∃ v, K v σ ∧ ∀ (σ' : List zd) (K' : KT), K' v σ' → zL arr sz x i σ' K' := by
  unfold zL at *
  repeat' split at h
  all_goals (first | exact h.elim | skip)
  all_goals (revert h; try simp only [*, if_true, if_false, Bool.false_eq_true, reduceIte, ite_true, ite_false])
  all_goals (intro h)
  all_goals (first | exact h.2.elim | exact h.2.2.elim | exact ⟨_, h, fun _ _ h' => h'⟩ | exact ⟨_, h.2, fun _ _ h' => ⟨h.1, h'⟩⟩ | exact ⟨_, h.2.2, fun _ _ h' => ⟨h.1, h.2.1, h'⟩⟩ | exact ⟨_, h.2.2.2, fun _ _ h' => ⟨h.1, h.2.1, h.2.2.1, h'⟩⟩ | exact ⟨_, h.2.2.2.2, fun _ _ h' => ⟨h.1, h.2.1, h.2.2.1, h.2.2.2.1, h'⟩⟩ | exact ⟨_, h.2.2.2.2.2, fun _ _ h' => ⟨h.1, h.2.1, h.2.2.1, h.2.2.2.1, h.2.2.2.2.1, h'⟩⟩ | exact ⟨_, h.2.2.2.2.2.2, fun _ _ h' => ⟨h.1, h.2.1, h.2.2.1, h.2.2.2.1, h.2.2.2.2.1, h.2.2.2.2.2.1, h'⟩⟩)
theorem idxSC_quiet (x i : AV) {σ : List zd} {K : KT} (h : zaN x i σ K) : ∃ v, K v σ ∧ ∀ (σ' : List zd) (K' : KT), K' v σ' → zaN x i σ' K' := by
  unfold zaN at *
  repeat' split at h
  all_goals (first | exact h.elim | skip)
  all_goals (revert h; try simp only [*, if_true, if_false, Bool.false_eq_true, reduceIte, ite_true, ite_false])
  all_goals (intro h)
  all_goals (first | exact h.2.elim | exact h.2.2.elim | exact ⟨_, h, fun _ _ h' => h'⟩ | exact ⟨_, h.2, fun _ _ h' => ⟨h.1, h'⟩⟩ | exact ⟨_, h.2.2, fun _ _ h' => ⟨h.1, h.2.1, h'⟩⟩ | exact ⟨_, h.2.2.2, fun _ _ h' => ⟨h.1, h.2.1, h.2.2.1, h'⟩⟩ | exact ⟨_, h.2.2.2.2, fun _ _ h' => ⟨h.1, h.2.1, h.2.2.1, h.2.2.2.1, h'⟩⟩ | exact ⟨_, h.2.2.2.2.2, fun _ _ h' => ⟨h.1, h.2.1, h.2.2.1, h.2.2.2.1, h.2.2.2.2.1, h'⟩⟩ | exact ⟨_, h.2.2.2.2.2.2, fun _ _ h' => ⟨h.1, h.2.1, h.2.2.1, h.2.2.2.1, h.2.2.2.2.1, h.2.2.2.2.2.1, h'⟩⟩)
theorem idxAC_quiet (agg : Bool) (n sz : Nat) (x i : AV) {σ : List zd} {K : KT} (h : zaO agg n sz x i σ K) : ∃ v, K v σ ∧ ∀ (σ' : List zd) (K' : KT), K' v σ' → zaO agg n sz x i σ' K' := by
  unfold zaO at *
  repeat' split at h
  all_goals (first | exact h.elim | skip)
  all_goals (revert h; try simp only [*, if_true, if_false, Bool.false_eq_true, reduceIte, ite_true, ite_false])
  all_goals (intro h)
  all_goals (first | exact h.2.elim | exact h.2.2.elim | exact ⟨_, h, fun _ _ h' => h'⟩ | exact ⟨_, h.2, fun _ _ h' => ⟨h.1, h'⟩⟩ | exact ⟨_, h.2.2, fun _ _ h' => ⟨h.1, h.2.1, h'⟩⟩ | exact ⟨_, h.2.2.2, fun _ _ h' => ⟨h.1, h.2.1, h.2.2.1, h'⟩⟩ | exact ⟨_, h.2.2.2.2, fun _ _ h' => ⟨h.1, h.2.1, h.2.2.1, h.2.2.2.1, h'⟩⟩ | exact ⟨_, h.2.2.2.2.2, fun _ _ h' => ⟨h.1, h.2.1, h.2.2.1, h.2.2.2.1, h.2.2.2.2.1, h'⟩⟩ | exact ⟨_, h.2.2.2.2.2.2, fun _ _ h' => ⟨h.1, h.2.1, h.2.2.1, h.2.2.2.1, h.2.2.2.2.1, h.2.2.2.2.2.1, h'⟩⟩)
theorem zte (x : AV) (k : Nat) {σ : List zd} {K : KT} (h : zc x k σ K) : ∃ v, K v σ ∧ ∀ (σ' : List zd) (K' : KT), K' v σ' → zc x k σ' K' := by
  unfold zc at *
  repeat' split at h
  all_goals (first | exact h.elim | skip)
  all_goals (revert h; try simp only [*, if_true, if_false, Bool.false_eq_true, reduceIte, ite_true, ite_false])
  all_goals (intro h)
  all_goals (first | exact h.2.elim | exact h.2.2.elim | exact ⟨_, h, fun _ _ h' => h'⟩ | exact ⟨_, h.2, fun _ _ h' => ⟨h.1, h'⟩⟩ | exact ⟨_, h.2.2, fun _ _ h' => ⟨h.1, h.2.1, h'⟩⟩ | exact ⟨_, h.2.2.2, fun _ _ h' => ⟨h.1, h.2.1, h.2.2.1, h'⟩⟩ | exact ⟨_, h.2.2.2.2, fun _ _ h' => ⟨h.1, h.2.1, h.2.2.1, h.2.2.2.1, h'⟩⟩ | exact ⟨_, h.2.2.2.2.2, fun _ _ h' => ⟨h.1, h.2.1, h.2.2.1, h.2.2.2.1, h.2.2.2.2.1, h'⟩⟩ | exact ⟨_, h.2.2.2.2.2.2, fun _ _ h' => ⟨h.1, h.2.1, h.2.2.1, h.2.2.2.1, h.2.2.2.2.1, h.2.2.2.2.2.1, h'⟩⟩)
theorem maxC_quiet (xs : List AV) {σ : List zd} {K : KT} (h : zdz xs σ K) : ∃ v, K v σ ∧ ∀ (σ' : List zd) (K' : KT), K' v σ' → zdz xs σ' K' := by
  unfold zdz at *
  repeat' split at h
  all_goals (first | exact h.elim | skip)
  all_goals (revert h; try simp only [*, if_true, if_false, Bool.false_eq_true, reduceIte, ite_true, ite_false])
  all_goals (intro h)
  all_goals (first | exact h.2.elim | exact h.2.2.elim | exact ⟨_, h, fun _ _ h' => h'⟩ | exact ⟨_, h.2, fun _ _ h' => ⟨h.1, h'⟩⟩ | exact ⟨_, h.2.2, fun _ _ h' => ⟨h.1, h.2.1, h'⟩⟩ | exact ⟨_, h.2.2.2, fun _ _ h' => ⟨h.1, h.2.1, h.2.2.1, h'⟩⟩ | exact ⟨_, h.2.2.2.2, fun _ _ h' => ⟨h.1, h.2.1, h.2.2.1, h.2.2.2.1, h'⟩⟩ | exact ⟨_, h.2.2.2.2.2, fun _ _ h' => ⟨h.1, h.2.1, h.2.2.1, h.2.2.2.1, h.2.2.2.2.1, h'⟩⟩ | exact ⟨_, h.2.2.2.2.2.2, fun _ _ h' => ⟨h.1, h.2.1, h.2.2.1, h.2.2.2.1, h.2.2.2.2.1, h.2.2.2.2.2.1, h'⟩⟩)
theorem minC_quiet (xs : List AV) {σ : List zd} {K : KT} (h : zdA xs σ K) : ∃ v, K v σ ∧ ∀ (σ' : List zd) (K' : KT), K' v σ' → zdA xs σ' K' := by
  unfold zdA at *
  repeat' split at h
  all_goals (first | exact h.elim | skip)
  all_goals (revert h; try simp only [*, if_true, if_false, Bool.false_eq_true, reduceIte, ite_true, ite_false])
  all_goals (intro h)
  all_goals (first | exact h.2.elim | exact h.2.2.elim | exact ⟨_, h, fun _ _ h' => h'⟩ | exact ⟨_, h.2, fun _ _ h' => ⟨h.1, h'⟩⟩ | exact ⟨_, h.2.2, fun _ _ h' => ⟨h.1, h.2.1, h'⟩⟩ | exact ⟨_, h.2.2.2, fun _ _ h' => ⟨h.1, h.2.1, h.2.2.1, h'⟩⟩ | exact ⟨_, h.2.2.2.2, fun _ _ h' => ⟨h.1, h.2.1, h.2.2.1, h.2.2.2.1, h'⟩⟩ | exact ⟨_, h.2.2.2.2.2, fun _ _ h' => ⟨h.1, h.2.1, h.2.2.1, h.2.2.2.1, h.2.2.2.2.1, h'⟩⟩ | exact ⟨_, h.2.2.2.2.2.2, fun _ _ h' => ⟨h.1, h.2.1, h.2.2.1, h.2.2.2.1, h.2.2.2.2.1, h.2.2.2.2.2.1, h'⟩⟩)
theorem loadC_quiet (agg : Bool) (n : Nat) (x : AV) {σ : List zd} {K : KT} (h : zg agg n x σ K) : ∃ v, K v σ ∧ ∀ (σ' : List zd) (K' : KT), zZ x σ σ' → K' v σ' → zg agg n x σ' K' := by
  unfold zg at h
  split at h
  · rename_i id off
    split at h
    · rename_i cs hcs
      split at h
      · rename_i hg
        exact ⟨_, h.2, fun σ' K' hk h' => by
          have hk' : σ'[id]? = σ[id]? := hk
          simp only [zg]; rw [hk', hcs]; simp only [hg, if_true]; exact ⟨h.1, h'⟩⟩
      · rename_i hg
        split at h
        · rename_i hv
          exact ⟨_, h, fun σ' K' hk h' => by
            have hk' : σ'[id]? = σ[id]? := hk
            simp only [zg]; rw [hk', hcs]; simp only [if_neg hg]; rw [hv]; exact h'⟩
        · exact h.elim
    · exact h.elim
  · split at h
    · rename_i hg
      exact ⟨_, h.2, fun σ' K' hk h' => by simp only [zg, if_pos hg]; exact ⟨h.1, h'⟩⟩
    · rename_i hg
      split at h
      · rename_i hv
        exact ⟨_, h, fun σ' K' hk h' => by simp only [zg, if_neg hg]; rw [hv]; exact h'⟩
      · exact h.elim
  · rename_i t g off
    split at h
    · rename_i cs hcs
      obtain ⟨hg', h⟩ := h
      split at h
      · rename_i hg
        exact ⟨_, h.2, fun σ' K' hk h' => by
          have hk' : σ'[t]? = σ[t]? := hk
          simp only [zg]; rw [hk', hcs]; simp only [hg, if_true]; exact ⟨hg', h.1, h'⟩⟩
      · rename_i hg
        split at h
        · rename_i hv
          exact ⟨_, h, fun σ' K' hk h' => by
            have hk' : σ'[t]? = σ[t]? := hk
            simp only [zg]; rw [hk', hcs]; simp only [if_neg hg]; rw [hv]; exact ⟨hg', h'⟩⟩
        · exact h.elim
    · exact h.elim
  · exact h.elim
theorem mgetC_quiet (kk : KK) (ok : Bool) (z m k : AV) {σ : List zd} {K : KT} (h : zaK kk ok z m k σ K) : ∃ v, K v σ ∧ ∀ (σ' : List zd) (K' : KT), zZ m σ σ' → K' v σ' → zaK kk ok z m k σ' K' := by
  unfold zaK at h
  split at h
  · rename_i es hes
    have key : ∀ σ', zZ m σ σ' → zej m σ' = some es := fun σ' hk => by
      cases m with
      | d x => cases x <;> simp only [zej] at hes ⊢ <;> exact hes
      | map id => simp only [zej, zZ] at hes hk ⊢; rw [hk]; exact hes
      | _ => simp only [zej] at hes; cases hes
    obtain ⟨h1, h⟩ := h
    split at h
    · rename_i hf
      exact ⟨_, h, fun σ' K' hk h' => by simp only [zaK, key σ' hk, hf]; exact ⟨h1, h'⟩⟩
    · rename_i hf
      exact ⟨_, h, fun σ' K' hk h' => by simp only [zaK, key σ' hk, hf]; exact ⟨h1, h'⟩⟩
    · exact h.elim
  · exact h.elim
theorem lenC_quiet (k : LK) (x : AV) (hq : (match k with | .map => false | _ => true) = true) {σ : List zd} {K : KT} (h : zaz k x σ K) : ∃ v, K v σ ∧ ∀ (σ' : List zd) (K' : KT), K' v σ' → zaz k x σ' K' := by
  cases k with
  | map => cases hq
  | _ =>
    simp only [zaz] at h ⊢
    repeat' split at h
    all_goals (first | exact h.elim | skip)
    all_goals (revert h; try simp only [*])
    all_goals (intro h)
    all_goals (exact ⟨_, h, fun _ _ h' => h'⟩)
theorem ztd (s n : Nat) (o : Option (List AV)) {σ : List zd} {K : KT} (h : zj false s n o σ K) : ∃ v, K v σ ∧ ∀ (σ' : List zd) (K' : KT), K' v σ' → zj false s n o σ' K' := by
  simp only [zj, Bool.false_eq_true, if_false] at *
  repeat' split at h
  all_goals (first | exact h.elim | skip)
  all_goals (revert h; try simp only [*])
  all_goals (intro h)
  all_goals (exact ⟨_, h, fun _ _ h' => h'⟩)
theorem pickC_quiet (c a b : AV) {σ : List zd} {K : KT} (h : ztb c a b σ K) : ∃ v, K v σ ∧ ∀ (σ' : List zd) (K' : KT), K' v σ' → ztb c a b σ' K' := by
  unfold ztb at *
  split at h
  · rename_i t
    cases t
    · exact ⟨_, h.2 rfl, fun _ _ h' => ⟨fun e => Bool.noConfusion e, fun _ => h'⟩⟩
    · exact ⟨_, h.1 rfl, fun _ _ h' => ⟨fun _ => h', fun e => Bool.noConfusion e⟩⟩
  · exact h.elim
theorem unA_quiet (op : UnOp) (x : AV) {K : AV → Prop} (h : unA op x K) : ∃ v, K v ∧ ∀ K' : AV → Prop, K' v → unA op x K' := by
  unfold unA at *
  split at h
  · exact ⟨_, h, fun _ h' => h'⟩
  · exact ⟨_, h, fun _ h' => h'⟩
  · exact h.elim

theorem zsF {i : I} (hq : i.quiet = true) {fr : zao} {σ : List zd} {K : KT} (h : zba P i fr σ K) :
    ∃ v, K v σ ∧ ∀ (σ' : List zd) (K' : KT), (∀ o, i.at? = some o → zZ (ev fr o) σ σ') → K' v σ' → zba P i fr σ' K' := by
  cases i <;> simp only [I.quiet, Bool.false_eq_true] at hq <;> simp only [zba] at h ⊢
  case mv => exact ⟨_, h, fun _ _ _ h' => h'⟩
  case pick => obtain ⟨v, hv, hk⟩ := pickC_quiet _ _ _ h; exact ⟨v, hv, fun σ' K' _ h' => hk σ' K' h'⟩
  case build => obtain ⟨v, hv, hk⟩ := buildC_quiet _ h; exact ⟨v, hv, fun σ' K' _ h' => hk σ' K' h'⟩
  case mkslice mu _ _ _ _ =>
    cases mu
    · obtain ⟨v, hv, hk⟩ := ztd _ _ _ h; exact ⟨v, hv, fun σ' K' _ h' => hk σ' K' h'⟩
    · simp [I.quiet] at hq
  case load => obtain ⟨v, hv, hk⟩ := loadC_quiet _ _ _ h; exact ⟨v, hv, fun σ' K' ho h' => hk σ' K' (ho _ rfl) h'⟩
  case nilchk => obtain ⟨v, hv, hk⟩ := nilC_quiet _ h; exact ⟨v, hv, fun σ' K' _ h' => hk σ' K' h'⟩
  case bin => obtain ⟨v, hv, hk⟩ := binA_quiet h; exact ⟨v, hv, fun σ' K' _ h' => hk (fun a => K' a σ') h'⟩
  case un => obtain ⟨v, hv, hk⟩ := unA_quiet _ _ h; exact ⟨v, hv, fun σ' K' _ h' => hk (fun a => K' a σ') h'⟩
  case conv => obtain ⟨v, hv, hk⟩ := convC_quiet _ _ h; exact ⟨v, hv, fun σ' K' _ h' => hk σ' K' h'⟩
  case slc => obtain ⟨v, hv, hk⟩ := slcC_quiet _ _ _ _ _ h; exact ⟨v, hv, fun σ' K' _ h' => hk σ' K' h'⟩
  case faddr => obtain ⟨v, hv, hk⟩ := faddrC_quiet _ _ h; exact ⟨v, hv, fun σ' K' _ h' => hk σ' K' h'⟩
  case field => obtain ⟨v, hv, hk⟩ := fieldC_quiet _ _ _ _ h; exact ⟨v, hv, fun σ' K' _ h' => hk σ' K' h'⟩
  case iaddr => obtain ⟨v, hv, hk⟩ := iaddrC_quiet _ _ _ _ h; exact ⟨v, hv, fun σ' K' _ h' => hk σ' K' h'⟩
  case idxS => obtain ⟨v, hv, hk⟩ := idxSC_quiet _ _ h; exact ⟨v, hv, fun σ' K' _ h' => hk σ' K' h'⟩
  case idxA => obtain ⟨v, hv, hk⟩ := idxAC_quiet _ _ _ _ _ h; exact ⟨v, hv, fun σ' K' _ h' => hk σ' K' h'⟩
  case extract => obtain ⟨v, hv, hk⟩ := zte _ _ h; exact ⟨v, hv, fun σ' K' _ h' => hk σ' K' h'⟩
  case len => obtain ⟨v, hv, hk⟩ := lenC_quiet _ _ hq h; exact ⟨v, hv, fun σ' K' _ h' => hk σ' K' h'⟩
  case maxi => obtain ⟨v, hv, hk⟩ := maxC_quiet _ h; exact ⟨v, hv, fun σ' K' _ h' => hk σ' K' h'⟩
  case mini => obtain ⟨v, hv, hk⟩ := minC_quiet _ h; exact ⟨v, hv, fun σ' K' _ h' => hk σ' K' h'⟩
  case mget => obtain ⟨v, hv, hk⟩ := mgetC_quiet _ _ _ _ _ h; exact ⟨v, hv, fun σ' K' ho h' => hk σ' K' (ho _ rfl) h'⟩


theorem zjd (fr : zao) (d : Option Nat) (a : AV) (i : Nat) : zgN (aput fr d a) i = if d = some i then a else zgN fr i := by
  cases d with
  | none => simp [aput]
  | some d => simp only [aput, zkE, Option.some.injEq]; by_cases h : i = d <;> simp [h, eq_comm]
def FEq (fr fr' : zao) : Prop := ∀ i, zgN fr i = zgN fr' i
def FE (K : zao → List zd → Prop) : Prop := ∀ fr fr' σ, FEq fr fr' → K fr σ → K fr' σ

theorem zrA {x : Ai} {fr fr' : zao} {σ : List zd} {K K' : zao → List zd → Prop} (he : ∀ t ∈ x.reads, zgN fr t = zgN fr' t)
    (hk : ∀ u s, K (aput fr x.dst u) s → K' (aput fr' x.dst u) s) (h : aop P x fr σ K) : aop P x fr' σ K' := by
  unfold aop at *
  cases hg : x.g with
  | none =>
    simp only [hg] at h ⊢
    rw [← zpH (fr := fr) (fr' := fr') fun t ht => he t (by simp only [Ai.reads, hg]; exact ht)]
    exact zui (fun a s => hk a s) h
  | some p =>
    obtain ⟨s, want⟩ := p
    simp only [hg] at h ⊢
    have e1 : ∀ t ∈ x.i.reads, zgN fr t = zgN fr' t := fun t ht => he t (by simp only [Ai.reads, hg]; exact List.mem_cons_of_mem _ ht)
    have e0 : zgN fr s = zgN fr' s := he s (by simp only [Ai.reads, hg]; exact List.mem_cons_self)
    rw [← e0]
    unfold zhM at *
    split at h
    · refine ⟨fun e => ?_, fun e => hk _ _ (h.2 e)⟩
      have h1 := h.1 e
      rw [← zpH (fr := fr) (fr' := fr') e1]
      exact zui (fun a s => hk a s) h1
    · exact hk _ _ h
    · exact h

theorem zeH {x : Ai} {fr : zao} {σ : List zd} {K K' : zao → List zd → Prop} (hk : ∀ f s, K f s → K' f s) (h : aop P x fr σ K) : aop P x fr σ K' :=
  zrA (fun _ _ => rfl) (fun _ _ => hk _ _) h

theorem zpI {x : Ai} (hq : x.i.quiet = true) {fr : zao} {σ : List zd} {K : zao → List zd → Prop} (h : aop P x fr σ K) :
    ∃ v, K (aput fr x.dst v) σ ∧ ∀ (fr' : zao) (σ' : List zd) (K' : zao → List zd → Prop), (∀ t ∈ x.reads, zgN fr t = zgN fr' t) → (∀ o, x.i.at? = some o → zZ (ev fr o) σ σ') → K' (aput fr' x.dst v) σ' → aop P x fr' σ' K' := by
  unfold aop at h
  cases hg : x.g with
  | none =>
    simp only [hg] at h
    obtain ⟨v, hv, hk⟩ := zsF hq h
    refine ⟨v, hv, fun fr' σ' K' he hb h' => ?_⟩
    unfold aop
    simp only [hg]
    rw [← zpH (fr := fr) (fr' := fr') fun t ht => he t (by simp only [Ai.reads, hg]; exact ht)]
    exact hk σ' _ hb h'
  | some p =>
    obtain ⟨s, want⟩ := p
    simp only [hg] at h
    unfold zhM at h
    have e0 : ∀ fr' : zao, (∀ t ∈ x.reads, zgN fr t = zgN fr' t) → zgN fr s = zgN fr' s := fun fr' he => he s (by simp only [Ai.reads, hg]; exact List.mem_cons_self)
    split at h
    · rename_i b hb
      cases hbw : (b == want)
      · refine ⟨_, h.2 hbw, fun fr' σ' K' he _ h' => ?_⟩
        unfold aop
        simp only [hg]
        rw [← e0 fr' he, hb]
        exact ⟨fun e => (by rw [hbw] at e; cases e), fun _ => h'⟩
      · obtain ⟨v, hv, hk⟩ := zsF hq (h.1 hbw)
        refine ⟨v, hv, fun fr' σ' K' he ho h' => ?_⟩
        unfold aop
        simp only [hg]
        rw [← e0 fr' he, hb]
        refine ⟨fun _ => ?_, fun e => (by rw [hbw] at e; cases e)⟩
        rw [← zpH (fr := fr) (fr' := fr') fun t ht => he t (by simp only [Ai.reads, hg]; exact List.mem_cons_of_mem _ ht)]
        exact hk σ' _ ho h'
    · rename_i hb
      refine ⟨_, h, fun fr' σ' K' he _ h' => ?_⟩
      unfold aop
      simp only [hg]
      rw [← e0 fr' he, hb]
      exact h'
    · exact h.elim

/-! ### A region that draws its order, taken in one order. -/
def keeps (fr : zao) (σ σ' : List zd) : List Nat → Prop → Prop
  | [], p => p
  | o :: r, p => zZ (zgN fr o) σ σ' ∧ keeps fr σ σ' r p
theorem zjc {fr : zao} {σ σ' : List zd} {p : Prop} : ∀ {l : List Nat}, keeps fr σ σ' l p ↔ (∀ o ∈ l, zZ (zgN fr o) σ σ') ∧ p
  | [] => by simp [keeps]
  | o :: r => by simp only [keeps, zjc (l := r), List.mem_cons, forall_eq_or_imp, and_assoc]
def zen (P : Program) (l : List Ai) : List (Nat × List Nat) → zao → List zd → (zao → List zd → Prop) → Prop
  | [], fr, σ, K => K fr σ
  | (i, nd) :: r, fr, σ, K =>
    match l[i]? with
    | some x => aop P x fr σ fun f s => keeps fr σ s nd (zen P l r f s K)
    | none => False

theorem FEq.put {fr fr' : zao} (h : FEq fr fr') (d : Option Nat) (a : AV) : FEq (aput fr d a) (aput fr' d a) := fun i => by
  rw [zjd, zjd, h i]
theorem FEq.ev {fr fr' : zao} (h : FEq fr fr') (o : Opd) : ev fr o = ev fr' o := zbQ fun t _ => h t

theorem zrD {l : List Ai} {K : zao → List zd → Prop} (hK : FE K) : ∀ (lin : List (Nat × List Nat)) (fr fr' : zao) (σ : List zd), FEq fr fr' → zen P l lin fr σ K → zen P l lin fr' σ K
  | [], fr, fr', σ, he, h => hK fr fr' σ he h
  | (i, nd) :: r, fr, fr', σ, he, h => by
    unfold zen at *
    split at h
    · refine zrA (fun t _ => he t) (fun u s hs => ?_) h
      rw [zjc] at hs ⊢
      exact ⟨fun o ho => (by rw [← he o]; exact hs.1 o ho), zrD hK r _ _ s (he.put _ u) hs.2⟩
    · exact h
def passes (x y : Ai) : Bool :=
  x.i.quiet && (x.dst.all fun d => !y.reads.contains d) && (y.dst.all fun d => !x.reads.contains d) && (match x.dst with | some d => !(y.dst == some d) | none => true)

theorem zrQ {x y : Ai} (h : passes x y = true) : x.i.quiet = true ∧ (∀ d, x.dst = some d → d ∉ y.reads) ∧ (∀ d, y.dst = some d → d ∉ x.reads) ∧ (∀ d, x.dst = some d → y.dst ≠ some d) := by
  simp only [passes, Bool.and_eq_true] at h
  obtain ⟨⟨⟨h1, h2⟩, h3⟩, h4⟩ := h
  refine ⟨h1, fun d hd => ?_, fun d hd => ?_, fun d hd => ?_⟩
  · rw [hd] at h2; simpa using h2
  · rw [hd] at h3; simpa using h3
  · rw [hd] at h4; simpa using h4

theorem swap {x y : Ai} {fr : zao} {σ : List zd} {K : zao → List zd → Prop} (hp : passes x y = true) (hK : FE K)
    (h : aop P x fr σ fun f s => aop P y f s fun f' s' => (∀ o, x.i.at? = some o → zZ (ev fr o) σ s') ∧ K f' s') :
    aop P y fr σ fun f s => aop P x f s K := by
  obtain ⟨hq, h1, h2, h3⟩ := zrQ hp
  obtain ⟨v, hv, hk⟩ := zpI hq h
  refine zrA (fun t ht => ?_) (fun u s hs => ?_) hv
  · rw [zjd]
    split
    · rename_i e; exact absurd ht (h1 t e)
    · rfl
  · refine hk _ _ _ (fun t ht => ?_) hs.1 (hK _ _ s (fun i => ?_) hs.2)
    · rw [zjd]
      split
      · rename_i e; exact absurd ht (h2 t e)
      · rfl
    · simp only [zjd]
      by_cases hx : x.dst = some i
      · have := h3 i hx
        simp [hx, this]
      · simp [hx]

theorem aop_still {x : Ai} (hq : x.i.quiet = true) {fr : zao} {σ : List zd} {K : zao → List zd → Prop} (h : aop P x fr σ K) : aop P x fr σ fun f s => s = σ ∧ K f s := by
  obtain ⟨v, hv, hk⟩ := zpI hq h
  refine hk fr σ _ (fun _ _ => rfl) (fun o _ => ?_) ⟨rfl, hv⟩
  unfold zZ; split <;> trivial

def pairOk (x y : Ai) (nx ny : List Nat) : Bool :=
  nx.isEmpty && passes x y && (match x.i.at? with | some (.tmp t) => y.i.quiet || ny.contains t | some (.lit (.box _ _)) => false | some (.lit (.map _)) => false | some (.lit (.rpt _ _ _)) => false | _ => true)
def zoU (x y : Ai) : Bool :=
  match x.i.at? with
  | some (.tmp t) => !(y.dst == some t) && !(x.dst == some t)
  | _ => true

theorem extract {l : List Ai} {K : zao → List zd → Prop} (hK : FE K) {i : Nat} {nd : List Nat} {x : Ai} (hx : l[i]? = some x) {post : List (Nat × List Nat)} :
    ∀ (pre : List (Nat × List Nat)) (fr : zao) (σ : List zd), (∀ p ∈ pre, ∃ y, l[p.1]? = some y ∧ pairOk y x p.2 nd = true) →
      (pre.Pairwise fun p q => ∀ y z, l[p.1]? = some y → l[q.1]? = some z → zoU y z = true) → (∀ p ∈ pre, ∀ y, l[p.1]? = some y → zoU y y = true) →
      zen P l (pre ++ (i, nd) :: post) fr σ K →
      aop P x fr σ fun f s => ((x.i.quiet = true → s = σ) ∧ ∀ t ∈ nd, (∀ p ∈ pre, ∀ y, l[p.1]? = some y → y.dst ≠ some t) → zZ (zgN fr t) σ s) ∧ zen P l (pre ++ post) f s K
  | [], fr, σ, _, _, _, h => by
    simp only [List.nil_append, zen, hx] at h
    have h2 : aop P x fr σ fun f s => (∀ t ∈ nd, zZ (zgN fr t) σ s) ∧ zen P l post f s K := zeH (fun f s hs => zjc.1 hs) h
    by_cases hq : x.i.quiet = true
    · exact zeH (fun f s hs => ⟨⟨fun _ => hs.1, fun t ht _ => hs.2.1 t ht⟩, hs.2.2⟩) (aop_still hq h2)
    · exact zeH (fun f s hs => ⟨⟨fun e => absurd e hq, fun t ht _ => hs.1 t ht⟩, hs.2⟩) h2
  | (j, nj) :: pre, fr, σ, hp, hs, hss, h => by
    obtain ⟨y, hy, hpy⟩ := hp (j, nj) List.mem_cons_self
    simp only [pairOk, Bool.and_eq_true, List.isEmpty_iff] at hpy
    obtain ⟨⟨hnj, hps⟩, hat⟩ := hpy
    subst hnj
    have hyq := (zrQ hps).1
    have hyy := hss (j, []) List.mem_cons_self y hy
    rw [List.pairwise_cons] at hs
    simp only [List.cons_append, zen, hy, keeps] at h
    obtain ⟨v, hv, hk⟩ := zpI hyq h
    have ih := extract hK hx pre _ σ (fun p hp' => hp p (List.mem_cons_of_mem _ hp')) hs.2 (fun p hp' => hss p (List.mem_cons_of_mem _ hp')) hv
    have h3 : aop P y fr σ fun f s => aop P x f s fun f' s' => (∀ o, y.i.at? = some o → zZ (ev fr o) σ s') ∧
        (((x.i.quiet = true → s' = σ) ∧ ∀ t ∈ nd, (∀ p ∈ (j, []) :: pre, ∀ y, l[p.1]? = some y → y.dst ≠ some t) → zZ (zgN fr t) σ s') ∧ zen P l (pre ++ post) f' s' K) := by
      refine hk fr σ _ (fun _ _ => rfl) (fun o _ => (by unfold zZ; split <;> trivial)) (zeH (fun f' s' hh => ?_) ih)
      refine ⟨fun o ho => ?_, ⟨hh.1.1, fun t ht hno => ?_⟩, hh.2⟩
      · cases o with
        | lit a =>
          rw [ho] at hat
          cases a <;> first | trivial | simp at hat
        | tmp t =>
          rw [ho] at hat
          simp only [Bool.or_eq_true, List.contains_iff_mem] at hat
          rcases hat with hq | hm
          · rw [hh.1.1 hq]; simp only [zZ]; split <;> trivial
          · have h4 := hh.1.2 t hm fun p hp' z hz => by
              have := hs.1 p hp' y z hy hz
              simp only [zoU, ho, Bool.and_eq_true] at this
              have := this.1
              simpa using this
            have h5 : y.dst ≠ some t := by
              simp only [zoU, ho, Bool.and_eq_true] at hyy
              simpa using hyy.1
            rw [zjd, if_neg h5] at h4
            exact h4
      · have h4 := hh.1.2 t ht fun p hp' z hz => hno p (List.mem_cons_of_mem _ hp') z hz
        rw [zjd, if_neg (hno (j, []) List.mem_cons_self y hy)] at h4
        exact h4
    have hKK : FE fun f' s' => ((x.i.quiet = true → s' = σ) ∧ ∀ t ∈ nd, (∀ p ∈ (j, []) :: pre, ∀ y, l[p.1]? = some y → y.dst ≠ some t) → zZ (zgN fr t) σ s') ∧ zen P l (pre ++ post) f' s' K :=
      fun f f' s he hh => ⟨hh.1, zrD hK _ _ _ _ he hh.2⟩
    refine zeH (fun f s hh => ?_) (swap hps hKK h3)
    obtain ⟨v', hv', _⟩ := zpI hyq hh
    refine ⟨hv'.1, ?_⟩
    simp only [List.cons_append, zen, hy, keeps]
    exact zeH (fun f' s' h' => h'.2) hh
end Go.AW
