/- What an operation does, against the model: append, to a row of the call's own or to one without spare places. -/
import Derived.Test.YtahbjkanmagndaaAwSnd7
set_option linter.all false
set_option linter.unusedSimpArgs false
set_option linter.unusedVariables false
namespace Go.AW
section
variable {P : Program} {o : Oper} {i : I} {fr : Frame} {σ : List AObj} {K : AV → List AObj → Prop} {L : Nat → Loc} {w : World} {a : Act}

/-- the cells of a row of new elements -/
theorem cells_append {O : Nat → Nat → Prop} {sz : Nat} {es ys : List (List D)} {olds news : List Value} (h1 : CellsAre w O sz es olds) (h2 : CellsAre w O sz ys news) (hl : olds.length = es.length * sz) :
    CellsAre w O sz (es ++ ys) (olds ++ news) := by
  intro i e j d hi hj
  rcases Nat.lt_or_ge i es.length with hlt | hge
  · rw [List.getElem?_append_left hlt] at hi
    obtain ⟨v, c1, c2⟩ := h1 i e j d hi hj
    exact ⟨v, by rw [List.getElem?_append_left (lt_of_get c1)]; exact c1, c2⟩
  · rw [List.getElem?_append_right hge] at hi
    obtain ⟨v, c1, c2⟩ := h2 _ e j d hi hj
    have e1 : i * sz = (i - es.length) * sz + es.length * sz := by rw [← Nat.add_mul]; congr 1; omega
    refine ⟨v, ?_, c2⟩
    rw [List.getElem?_append_right (by rw [hl]; omega), hl]
    rw [show i * sz + j - es.length * sz = (i - es.length) * sz + j by omega]
    exact c1

theorem CellsAre.step {L L' : Nat → Loc} {σ σ' : List AObj} {w w' : World} (s : Step L σ w L' σ' w') {sz : Nat} {es : List (List D)} {vs : List Value} (h : CellsAre w (Own L σ) sz es vs) : CellsAre w' (Own L' σ') sz es vs := by
  intro i e j d hi hj
  obtain ⟨v, c1, c2, c3⟩ := h i e j d hi hj
  exact ⟨v, c1, s.rd c2, c3⟩

/-- cell after cell of a row's spare end is written -/
theorem run_storeTok (id sz n : Nat) : ∀ (vs : List Value) (off i : Nat) (w : World), Sim L σ w → σ[id]? = some (.tok sz n) → (L id).nil = false → (L id).a.spot = none → (∀ v ∈ vs, v.oneCell' = true) →
    (L id).a.off + n * sz ≤ (L id).a.off + off + i → off + i + vs.length ≤ (L id).cap * sz →
    ∃ w', (storeCells ⟨(L id).a.block, (L id).a.off + off, none⟩ vs i).run P w = .ok () w' ∧ Step L σ w L σ w' ∧ Sim L σ w' ∧ w'.heap.size = w.heap.size ∧
      (∀ k v, vs[k]? = some v → w'.cell? ⟨(L id).a.block, (L id).a.off + off + i + k, none⟩ = some v) ∧
      (∀ p, (p.block ≠ (L id).a.block ∨ p.off < (L id).a.off + off + i ∨ p.spot ≠ none) → w'.cell? p = w.cell? p)
  | [], off, i, w, S, _, _, _, _, _, _ => ⟨w, by simp [storeCells], Step.refl _ _ _, S, rfl, by simp, fun _ _ => rfl⟩
  | v :: vs, off, i, w, S, hx, hn, hsp, hone, hlo, hhi => by
    simp only [List.length_cons] at hhi
    obtain ⟨s1, S1⟩ := tok_store S hx (o := (L id).a.off + off + i) hn (by omega) (by omega) v
    obtain ⟨_, _, _, h3⟩ := S.obj id _ hx
    obtain ⟨⟨u, hu⟩, hf⟩ := h3 hn ((L id).a.off + off + i) (by omega) (by omega)
    obtain ⟨w', r, s2, S2, hs, hc, hk⟩ := run_storeTok id sz n vs off (i + 1) _ S1 hx hn hsp (fun v hv => hone v (by simp [hv])) (by omega) (by omega)
    have ho := hone v (by simp)
    have hst : (store ((Addr.mk (L id).a.block ((L id).a.off + off) none).add i) v).run P w = .ok () (w.setCell ⟨(L id).a.block, (L id).a.off + off + i, none⟩ v) := by
      rw [addr_add]
      cases v <;> first | (simp [Value.oneCell'] at ho; done) | simp [store, Sem.run, hu, hf]
    refine ⟨w', by rw [storeCells]; simp [hst, r], s1.trans s2, S2, by rw [hs]; simp, fun k x hk' => ?_, fun p hp => ?_⟩
    · cases k with
      | zero =>
        simp at hk'; subst hk'
        rw [hk _ (.inr (.inl (by dsimp only; omega)))]
        exact World.cell?_setCell_same w _ _ hu
      | succ k =>
        simp at hk'
        have := hc k x hk'
        rw [show (L id).a.off + off + i + (k + 1) = (L id).a.off + off + (i + 1) + k by omega]
        exact this
    · rw [hk p (Or.imp_right (Or.imp_left fun h => by omega) hp)]
      refine World.cell?_setCell_other w _ _ v fun e => ?_
      subst e
      rcases hp with h | h | h
      · exact h rfl
      · dsimp only at h; omega
      · exact h rfl

theorem snd_append (S : Sim L σ w) (F : FR w L σ fr a.tmps) {c : Call} {t u e : TypeId} {x y : Operand} {x' y' : Opd} {sz bytes : Nat} {zz : List AV} {inf : TypeInfo} (ho : o.op = .call c) (hcal : c.callee = .builtin .append) (hat : c.argTypes.toList = [t, u]) (hargs : c.args.toList = [x, y])
    (ht : P.underlying t = some (.slice e)) (hu : (∃ e', P.underlying u = some (.slice e')) ∨ P.underlying u = some .string) (hs : sizeOf? P e = some sz) (hi : P.info? e = some inf) (hz : zeros P e = some zz) (hsz : 0 < sz) (hzl : zz.length = sz) (hb0 : 0 < inf.bytes) (hb : inf.bytes = bytes)
    (hx : opd x = some x') (hy : opd y = some y') (h : astep P (.append sz bytes zz x' y') fr σ K) : Yields1 P o a L σ w K := by
  have hargs' : c.args = #[x, y] := by apply Array.ext'; simpa using hargs
  have hat' : c.argTypes = #[t, u] := by apply Array.ext'; simpa using hat
  have hvx := ev_sound F hx
  have hvy := ev_sound F hy
  have hisz : inf.size = sz := by simp only [sizeOf?, hi, Option.map_some, Option.some.injEq] at hs; exact hs
  obtain ⟨inf', z, hi', hz1, hz2⟩ := zeros_sound hz
  rw [hi] at hi'; cases hi'
  have hzs : z.cells.size = sz := by have := (mapM_some hz2).1; simp at this; omega
  have fin : ∀ {v w'}, (Builtin.append_ #[t, u] o.type #[a.eval x, a.eval y]).run P w = .ok v w' → (execOp a.eval o).run P w = .ok (.value v) w' := fun {v w'} h1 => by
    simp [execOp, ho, resolve, hcal, hargs', hat', invoke, builtin, h1]
  simp only [astep, appendC] at h
  split at h
  · rename_i ys hys
    obtain ⟨hysz, h⟩ := h
    obtain ⟨news, hnews, hncells, hnone⟩ := srcE_sound (P := P) S hvy hys hysz
    have size_new : ∀ {olds : List Value} {n cap : Nat}, olds.length = n * sz → ¬ n + ys.length ≤ cap →
        (olds.toArray ++ news.toArray ++ Builtin.zeroCells z.cells (grownCap w (n + ys.length) cap e - (n + ys.length))).size = grownCap w (n + ys.length) cap e * sz := fun {olds n cap} hol _ => by
      have hge := grownCap_ge w (n + ys.length) cap e
      simp only [Array.size_append, List.size_toArray, size_zeroCells, hzs, hol, hnews.1, ← Nat.add_mul]
      congr 1; omega
    split at h
    · -- a slice without spare places
      rename_i es hes
      obtain ⟨hesz, hfit, hK⟩ := h
      rw [hes] at hvx
      generalize hX : a.eval x = X at hvx
      cases hvx with | exact _ b hrd =>
      obtain ⟨olds, holds, hocells, hoone⟩ := src_rd P hrd hesz
      by_cases hm : ys.length = 0
      · have hys0 : ys = [] := List.eq_nil_of_length_eq_zero hm
        have hn0 : news = [] := List.eq_nil_of_length_eq_zero (by rw [hnews.1, hm]; simp)
        have hrun := run_append_room' (P := P) (w := w) (ty := o.type) (base := b) (n := es.length) (cap := es.length) ht hu hs hnews (by omega)
        have hrun' : (Builtin.append_ #[t, u] o.type #[a.eval x, a.eval y]).run P w = .ok (.slice b es.length es.length) w := by
          rw [hX, hrun, hn0, hm]
          cases b <;> simp [storeCells]
        -- an end that owns nothing
        have hspot : b = none → es.length = 0 := fun hb' => by
          cases hrd with
          | empty => rfl
          | slice => cases hb'
        let l : Loc := { a := b.getD ⟨0, 0, none⟩, nil := b.isNone, cap := es.length }
        have hnoFoot : ∀ p q, ¬ Foot l (.tok sz es.length) p q := fun p q hf => by
          obtain ⟨_, _, h1, h2⟩ := hf
          dsimp only [l] at h1 h2; omega
        have hown : ∀ p q, Own (Lput L σ.length l) (σ ++ [.tok sz es.length]) p q → Own L σ p q := fun p q hf => by
          obtain ⟨id, ob, ho', hf⟩ := hf
          rcases Nat.lt_or_ge id σ.length with hl | hl
          · rw [List.getElem?_append_left hl] at ho'
            rw [Lput_ne (by omega)] at hf
            exact ⟨id, ob, ho', hf⟩
          · rw [List.getElem?_append_right hl] at ho'
            have e1 : id = σ.length := by have := lt_of_get ho'; simp at this; omega
            subst e1
            simp at ho'; subst ho'
            rw [Lput_same] at hf
            exact absurd hf (hnoFoot _ _)
        have st : Step L σ w (Lput L σ.length l) (σ ++ [.tok sz es.length]) w :=
          ⟨rfl, rfl, rfl, Nat.le_refl _, fun _ _ _ => rfl, fun _ _ _ _ => rfl, fun p q _ hf => hown p q hf, by simp, fun id ob hob => by
            have hl := lt_of_get hob
            exact ⟨ob, by rw [List.getElem?_append_left hl]; exact hob, rfl, fun _ => Lput_ne (by omega), fun s' n' e' => ⟨n', e', Nat.le_refl _, fun _ => Lput_ne (by omega)⟩⟩⟩
        have hget : ∀ {id ob}, (σ ++ [AObj.tok sz es.length])[id]? = some ob → (id < σ.length ∧ σ[id]? = some ob) ∨ (id = σ.length ∧ ob = .tok sz es.length) := fun {id ob} hy => by
          rcases Nat.lt_or_ge id σ.length with hl | hl
          · rw [List.getElem?_append_left hl] at hy; exact .inl ⟨hl, hy⟩
          · rw [List.getElem?_append_right hl] at hy
            have e : id = σ.length := by have := lt_of_get hy; simp at this; omega
            subst e; simp at hy; exact .inr ⟨rfl, hy.symm⟩
        have S' : Sim (Lput L σ.length l) (σ ++ [.tok sz es.length]) w := by
          refine ⟨fun id ob hob => ?_, fun i j p q b' o' hij hp hq hfp hfq => ?_⟩
          · rcases hget hob with ⟨hl, hob⟩ | ⟨rfl, rfl⟩
            · rw [Lput_ne (by omega)]
              exact (S.obj id ob hob).keep st (fun _ _ _ => ⟨rfl, rfl⟩) (fun _ _ => rfl)
            · rw [Lput_same]
              refine ⟨Nat.le_refl _, fun hn => ?_, fun hn hc => ?_, fun hn o' h1 h2 => ?_⟩
              · exact hspot (by simpa [l] using hn)
              · dsimp only [l] at hc ⊢
                cases hrd with
                | empty => simp at hc
                | slice => rfl
              · dsimp only [l] at h1 h2; omega
          · rcases hget hp with ⟨hl, hp1⟩ | ⟨e1, e2⟩
            · rcases hget hq with ⟨hl', hq1⟩ | ⟨e1, e2⟩
              · rw [Lput_ne (by omega)] at hfp hfq
                exact S.apart i j p q b' o' hij hp1 hq1 hfp hfq
              · rw [e1, Lput_same, e2] at hfq
                exact hnoFoot _ _ hfq
            · rw [e1, Lput_same, e2] at hfp
              exact hnoFoot _ _ hfp
        subst hys0
        simp only [List.append_nil, List.length_nil, Nat.add_zero] at hK
        refine ⟨.own σ.length es, _, _, _, w, .inl (fin hrun'), st, S', .own σ.length es _ sz es.length (by simp) (Nat.le_refl _) hesz (st.rd hrd) (fun _ => ?_), hK⟩
        rw [Lput_same]
        dsimp only [l]
        cases b <;> simp
      · have hroom : ¬ es.length + ys.length ≤ es.length := by omega
        have hrun := run_append_grow' (P := P) (w := w) (ty := o.type) (base := b) (n := es.length) (cap := es.length) ht hu hi hz1 hisz hb (hb ▸ hb0) hnews holds hroom hfit
        have hrun' := hrun
        rw [← hX] at hrun'
        have hsize := size_new holds.1 hroom
        have hge := grownCap_ge w (es.length + ys.length) es.length e
        generalize hgc : grownCap w (es.length + ys.length) es.length e = gc at *
        generalize hcs : olds.toArray ++ news.toArray ++ Builtin.zeroCells z.cells (gc - (es.length + ys.length)) = cells at *
        obtain ⟨S1, s1⟩ := S.drew (w.drawn + 1)
        have hf : ∀ p q, Foot { a := ⟨w.heap.size, 0, none⟩, cap := gc } (.tok sz (es.length + ys.length)) p q → p = w.heap.size := fun p q hf => hf.2.1
        have s2 := extend_step L σ (w := w.drew) (.cells cells e) { a := ⟨w.heap.size, 0, none⟩, cap := gc } (.tok sz (es.length + ys.length)) hf
        have S2 := extend_sim (w := w.drew) S1 (.cells cells e) { a := ⟨w.heap.size, 0, none⟩, cap := gc } (.tok sz (es.length + ys.length)) hf (by
          refine ⟨hge, fun h => Bool.noConfusion h, fun _ _ => rfl, fun _ q h1 h2 => ⟨?_, World.frozen?_alloc_at cells e _ q rfl⟩⟩
          dsimp only at h1 h2
          have hlt : q < cells.size := by omega
          refine ⟨cells[q], ?_⟩
          have := cell?_alloc_any w.drew cells e (0, 0) q
          exact this.trans (Array.getElem?_eq_getElem hlt))
        have s12 := s1.trans s2
        refine ⟨.own σ.length (es ++ ys), _, _, _, _, .inl (fin hrun'), s12, S2, .own σ.length (es ++ ys) _ sz (es.length + ys.length) (by simp) (by simp) ?_ ?_ (fun _ => ?_), hK⟩
        · intro e' he'
          exact (List.mem_append.1 he').elim (hesz _) (hysz _)
        · have hlen : (es ++ ys).length = es.length + ys.length := by simp
          suffices hsuff : RD (w.drew.alloc (.cells cells e)) (Own (Lput L σ.length { a := ⟨w.heap.size, 0, none⟩, cap := gc }) (σ ++ [.tok sz (es.length + ys.length)])) (.slice (es ++ ys)) (.slice (some ⟨w.heap.size, 0, none⟩) (es ++ ys).length gc) by
            rw [hlen] at hsuff; exact hsuff
          refine RD.of_block (sz := sz) (by rw [hlen]; exact hge) (fun e' he' => by exact (List.mem_append.1 he').elim (hesz _) (hysz _)) fun i e' j d hi hj => ?_
          obtain ⟨v, c1, c2, _⟩ := (cells_append hocells hncells holds.1).step s12 i e' j d hi hj
          refine ⟨v, ?_, fun hown => ?_, c2⟩
          · rw [Nat.zero_add]
            have := cell?_alloc_any w.drew cells e (0, 0) (i * sz + j)
            refine this.trans ?_
            rw [← hcs, Array.getElem?_append_left (by have := lt_of_get c1; simpa using this)]
            simpa using c1
          · obtain ⟨id, ob, ho', hf'⟩ := hown
            have hij : i * sz + j < (es.length + ys.length) * sz := by
              have h1 := lt_of_get c1
              rw [List.length_append, holds.1, hnews.1, ← Nat.add_mul] at h1
              exact h1
            rcases Nat.lt_or_ge id σ.length with hl | hl
            · rw [List.getElem?_append_left hl] at ho'
              rw [Lput_ne (by omega)] at hf'
              have := hf'.lt (S.obj id ob ho')
              exact Nat.lt_irrefl _ this
            · rw [List.getElem?_append_right hl] at ho'
              have e1 : id = σ.length := by have := lt_of_get ho'; simp at this; omega
              subst e1
              simp at ho'; subst ho'
              rw [Lput_same] at hf'
              have := hf'.2.2.1
              dsimp only at this; omega
        · rw [Lput_same]; rfl
    · -- a row of the call's own
      rename_i tk es hes
      obtain ⟨hfit, htk, hK⟩ := h
      rw [hes] at hvx
      generalize hX : a.eval x = X at hvx
      cases hvx with | own _ _ _ sz' n0 k1 k2 k3 k4 k5 =>
      rw [htk] at k1
      obtain ⟨rfl, rfl⟩ : sz = sz' ∧ es.length = n0 := by cases k1; exact ⟨rfl, rfl⟩
      have hXv := k5 rfl
      rw [hXv] at k4
      obtain ⟨t1, t2, t3, t4⟩ := S.obj tk _ htk
      obtain ⟨olds, holds, hocells, hoone⟩ := src_rd P k4 k3
      have hall : ∀ e' ∈ es ++ ys, e'.length = sz := fun e' he' => by exact (List.mem_append.1 he').elim (k3 _) (hysz _)
      have hlen : (es ++ ys).length = es.length + ys.length := by simp
      by_cases hroom : es.length + ys.length ≤ (L tk).cap
      · have hrun := run_append_room' (P := P) (w := w) (ty := o.type) (base := if (L tk).nil then none else some (L tk).a) (n := es.length) (cap := (L tk).cap) ht hu hs hnews hroom
        by_cases hnil : (L tk).nil = true
        · -- nil: nothing is there, nothing comes
          have hc0 := t2 hnil
          have hes0 : es = [] := List.eq_nil_of_length_eq_zero (by omega)
          have hys0 : ys = [] := List.eq_nil_of_length_eq_zero (by omega)
          subst hes0; subst hys0
          have hset : σ.set tk (.tok sz 0) = σ := by
            obtain ⟨hl, hh⟩ := List.getElem?_eq_some_iff.1 htk
            have : σ[tk] = .tok sz 0 := hh
            rw [← this]; exact List.set_getElem_self hl
          simp only [List.append_nil, List.length_nil, Nat.add_zero, hset] at hK
          have hrun' : (Builtin.append_ #[t, u] o.type #[a.eval x, a.eval y]).run P w = .ok (.slice none 0 (L tk).cap) w := by
            rw [hX, hXv, hnil] at *
            simpa using hrun
          refine .same S (r := .own tk []) (fin hrun') (.own tk [] _ sz 0 htk (Nat.le_refl _) (by simp) ?_ (fun _ => by rw [hnil]; rfl)) hK
          rw [hnil] at k4; simpa using k4
        · have hnil' : (L tk).nil = false := by simpa using hnil
          rw [hnil'] at hrun hXv k4
          simp only [Bool.false_eq_true, if_false] at hrun hXv k4
          by_cases hcap0 : (L tk).cap = 0
          · have hes0 : es = [] := List.eq_nil_of_length_eq_zero (by omega)
            have hys0 : ys = [] := List.eq_nil_of_length_eq_zero (by omega)
            subst hes0; subst hys0
            have hset : σ.set tk (.tok sz 0) = σ := by
              obtain ⟨hl, hh⟩ := List.getElem?_eq_some_iff.1 htk
              have : σ[tk] = .tok sz 0 := hh
              rw [← this]; exact List.set_getElem_self hl
            simp only [List.append_nil, List.length_nil, Nat.add_zero, hset] at hK
            have hn0 : news = [] := List.eq_nil_of_length_eq_zero (by rw [hnews.1]; simp)
            have hrun' : (Builtin.append_ #[t, u] o.type #[a.eval x, a.eval y]).run P w = .ok (.slice (some (L tk).a) 0 (L tk).cap) w := by
              rw [hX, hXv]
              have := hrun
              rw [hn0] at this
              simpa [storeCells] using this
            exact .same S (r := .own tk []) (fin hrun') (.own tk [] _ sz 0 htk (Nat.le_refl _) (by simp) (by simpa using k4) (fun _ => by rw [hnil']; rfl)) hK
          · obtain ⟨A, hA⟩ : ∃ A, A = (L tk).a := ⟨_, rfl⟩
            rw [← hA] at k4
            have hspot := t3 hnil' (by omega)
            have haddr : (L tk).a = ⟨(L tk).a.block, (L tk).a.off, none⟩ := by
              cases hA : (L tk).a with | mk b1 o1 s1 => rw [hA] at hspot; simp at hspot; rw [hspot]
            have hmulle : es.length * sz + ys.length * sz ≤ (L tk).cap * sz := by rw [← Nat.add_mul]; exact Nat.mul_le_mul_right _ hroom
            obtain ⟨w', r, s1, S1, hws, hc, hk⟩ := run_storeTok (P := P) tk sz es.length news (es.length * sz) 0 w S htk hnil' hspot hnone (by omega) (by rw [hnews.1]; omega)
            obtain ⟨s2, S2⟩ := tok_fill S1 htk (m := es.length + ys.length) (by omega) hroom
            have s12 := s1.trans s2
            have hrun' : (Builtin.append_ #[t, u] o.type #[a.eval x, a.eval y]).run P w = .ok (.slice (some (L tk).a) (es.length + ys.length) (L tk).cap) w' := by
              rw [hX, hXv, hrun]
              have : (storeCells ((L tk).a.add (es.length * sz)) news).run P w = .ok () w' := by
                have e1 : (L tk).a.add (es.length * sz) = ⟨(L tk).a.block, (L tk).a.off + es.length * sz, none⟩ := by
                  conv => lhs; rw [haddr]
                  exact addr_add _ _ _
                rw [e1]; exact r
              simp [this]
            refine ⟨.own tk (es ++ ys), _, L, _, w', .inl (fin hrun'), s12, S2, .own tk (es ++ ys) _ sz (es.length + ys.length) (by simp [lt_of_get htk]) (by simp) hall ?_ (fun _ => by rw [hnil']; rfl), hK⟩
            suffices hsuff : RD w' (Own L (σ.set tk (.tok sz (es.length + ys.length)))) (.slice (es ++ ys)) (.slice (some ⟨(L tk).a.block, (L tk).a.off, none⟩) (es ++ ys).length (L tk).cap) by
              rw [hlen, ← haddr] at hsuff; exact hsuff
            refine RD.of_block (sz := sz) (by rw [hlen]; exact hroom) hall fun i e' j d hi hj => ?_
            have hnotown : i * sz + j < (es.length + ys.length) * sz → ¬ Own L (σ.set tk (.tok sz (es.length + ys.length))) (L tk).a.block ((L tk).a.off + (i * sz + j)) := fun hlt hown => by
              by_cases hil : i < es.length
              · -- an old cell: it was not owned
                rw [List.getElem?_append_left hil] at hi
                cases k4 with
                | empty => simp at hil
                | slice _ b1 o1 c1 sz1 vs g0 g1 g2 g3 g4 =>
                  have : sz1 = sz := by rw [← g2 e' (List.mem_of_getElem? hi), k3 e' (List.mem_of_getElem? hi)]
                  subst this
                  have hno := (g3 i e' j d hi hj).2
                  have hb1 := cell?_some_lt (g3 i e' j d hi hj).1
                  have e1 : b1 = (L tk).a.block := by rw [← hA]
                  have e2 : o1 = (L tk).a.off := by rw [← hA]
                  rw [e1, e2] at hno
                  rw [e1] at hb1
                  exact hno (s12.own _ _ hb1 hown)
              · obtain ⟨id, ob, ho', hf'⟩ := hown
                have hlow : es.length * sz ≤ i * sz := Nat.mul_le_mul_right _ (by omega)
                have hin : Foot (L tk) (.tok sz es.length) (L tk).a.block ((L tk).a.off + (i * sz + j)) := ⟨hnil', rfl, by omega, by rw [Nat.add_mul] at hlt; omega⟩
                rcases get_set_cases ho' with ⟨rfl, rfl⟩ | ⟨hne, ho'⟩
                · have := hf'.2.2.1; omega
                · exact S.apart id tk ob _ _ _ hne ho' htk hf' hin
            have hbase : (L tk).a.block < w.heap.size := by
              have hq : (L tk).a.off + es.length * sz < (L tk).a.off + (L tk).cap * sz ∨ es.length = (L tk).cap := by
                rcases Nat.lt_or_ge es.length (L tk).cap with h | h
                · left
                  have : (es.length + 1) * sz ≤ (L tk).cap * sz := Nat.mul_le_mul_right _ h
                  rw [Nat.succ_mul] at this; omega
                · right; omega
              rcases hq with hq | hq
              · obtain ⟨⟨u', hu'⟩, _⟩ := t4 hnil' _ (Nat.le_refl _) hq
                exact cell?_some_lt hu'
              · cases k4 with
                | empty => simp at hq; omega
                | slice _ b1 o1 c1 sz1 vs g0 g1 g2 g3 g4 =>
                  have e1 : b1 = (L tk).a.block := by rw [← hA]
                  cases es with
                  | nil => exact absurd rfl g0
                  | cons e0 es =>
                    have l0 := k3 e0 (by simp)
                    have : e0[0]? = some (e0[0]'(by omega)) := List.getElem?_eq_getElem _
                    have := cell?_some_lt (g3 0 e0 0 _ rfl this).1
                    rw [← e1]; exact this
            by_cases hil : i < es.length
            · have hi' := hi
              rw [List.getElem?_append_left hil] at hi'
              cases k4 with
              | empty => simp at hil
              | slice _ b1 o1 c1 sz1 vs g0 g1 g2 g3 g4 =>
                have : sz1 = sz := by rw [← g2 e' (List.mem_of_getElem? hi'), k3 e' (List.mem_of_getElem? hi')]
                subst this
                obtain ⟨hcell, hno⟩ := g3 i e' j d hi' hj
                have hrd := g4 i e' j d hi' hj
                have e1 : b1 = (L tk).a.block := by rw [← hA]
                have e2 : o1 = (L tk).a.off := by rw [← hA]
                have hb1 := cell?_some_lt hcell
                rw [e1, e2] at hcell hno
                rw [e1] at hb1
                exact ⟨_, (s12.cell _ _ hb1 hno).trans hcell, fun hown => hno (s12.own _ _ hb1 hown), s12.rd hrd⟩
            · have hi' := hi
              rw [List.getElem?_append_right (by omega)] at hi'
              obtain ⟨v, c1, c2, _⟩ := hncells _ e' j d hi' hj
              have hlt1 := lt_of_get c1
              have e1 : i * sz = (i - es.length) * sz + es.length * sz := by rw [← Nat.add_mul]; congr 1; omega
              refine ⟨v, ?_, hnotown (by rw [hnews.1] at hlt1; rw [Nat.add_mul]; omega), s12.rd c2⟩
              have := hc _ v c1
              rw [show (L tk).a.off + (i * sz + j) = (L tk).a.off + es.length * sz + 0 + ((i - es.length) * sz + j) by omega]
              exact this
      · have hrun := run_append_grow' (P := P) (w := w) (ty := o.type) (base := if (L tk).nil then none else some (L tk).a) (n := es.length) (cap := (L tk).cap) ht hu hi hz1 hisz hb (hb ▸ hb0) hnews holds hroom hfit
        have hrun' := hrun
        rw [← hXv, ← hX] at hrun'
        have hsize := size_new holds.1 hroom
        have hge := grownCap_ge w (es.length + ys.length) (L tk).cap e
        generalize hgc : grownCap w (es.length + ys.length) (L tk).cap e = gc at *
        generalize hcs : olds.toArray ++ news.toArray ++ Builtin.zeroCells z.cells (gc - (es.length + ys.length)) = cells at *
        obtain ⟨S1, s1⟩ := S.drew (w.drawn + 1)
        obtain ⟨s2, S2⟩ := tok_move (w := w.drew) S1 htk (m := es.length + ys.length) (by omega) cells e gc hge hsize
        have s12 := s1.trans s2
        refine ⟨.own tk (es ++ ys), _, _, _, _, .inl (fin hrun'), s12, S2, .own tk (es ++ ys) _ sz (es.length + ys.length) (by simp [lt_of_get htk]) (by simp) hall ?_ (fun _ => ?_), hK⟩
        · suffices hsuff : RD (w.drew.alloc (.cells cells e)) (Own (Lput L tk { a := ⟨w.heap.size, 0, none⟩, cap := gc }) (σ.set tk (.tok sz (es.length + ys.length)))) (.slice (es ++ ys)) (.slice (some ⟨w.heap.size, 0, none⟩) (es ++ ys).length gc) by
            rw [hlen] at hsuff; exact hsuff
          refine RD.of_block (sz := sz) (by rw [hlen]; exact hge) hall fun i e' j d hi hj => ?_
          obtain ⟨v, c1, c2, _⟩ := (cells_append hocells hncells holds.1).step s12 i e' j d hi hj
          have hij : i * sz + j < (es.length + ys.length) * sz := by
            have h1 := lt_of_get c1
            rw [List.length_append, holds.1, hnews.1, ← Nat.add_mul] at h1
            exact h1
          refine ⟨v, ?_, fun hown => ?_, c2⟩
          · rw [Nat.zero_add]
            have := cell?_alloc_any w.drew cells e (0, 0) (i * sz + j)
            refine this.trans ?_
            rw [← hcs, Array.getElem?_append_left (by have := lt_of_get c1; simpa using this)]
            simpa using c1
          · obtain ⟨id, ob, ho', hf'⟩ := hown
            rcases get_set_cases ho' with ⟨rfl, rfl⟩ | ⟨hne, ho'⟩
            · rw [Lput_same] at hf'
              have := hf'.2.2.1
              dsimp only at this; omega
            · rw [Lput_ne hne] at hf'
              have := hf'.lt (S.obj id ob ho')
              exact Nat.lt_irrefl _ this
        · rw [Lput_same]; rfl
    · exact h.elim
  · exact h.elim

end
end Go.AW
