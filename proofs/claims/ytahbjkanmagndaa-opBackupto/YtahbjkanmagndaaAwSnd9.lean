/- What an operation does, against the model: maps; is a slice nil. -/
import Derived.Test.YtahbjkanmagndaaAwSnd8
import Derived.MapKept
import Derived.WideKeyRuns
import Derived.WalkSpells
set_option linter.all false
set_option linter.unusedSimpArgs false
set_option linter.unusedVariables false
namespace Go.AW
open Go.MapKept
section
variable {P : Program} {o : Oper} {i : I} {fr : Frame} {σ : List AObj} {K : AV → List AObj → Prop} {L : Nat → Loc} {w : World} {a : Act}


theorem getmap {r : Nat} {es : Array MapEntry} {clock : Nat} (hb : w.heap[r]? = some (.map es clock)) : (getObj r).run P w = .ok (.map es clock) w := by
  simp [getObj, Sem.run, hb]
theorem setmap {r : Nat} {es : Array MapEntry} {clock : Nat} (o : Obj) (hb : w.heap[r]? = some (.map es clock)) : (setObj r o).run P w = .ok () { w with heap := w.heap.setIfInBounds r o } := by
  simp [setObj, Sem.run, hb]

/-- what a key's kind says of its type -/
theorem kkOf_spec {t : TypeId} {kk : KK} (h : kkOf P t = some kk) :
    (kk = .int ∧ ∃ k, P.underlying t = some (.int k)) ∨ (kk = .str ∧ P.underlying t = some .string) ∨ (∃ n, kk = .ints n ∧ intsB P t = some n) := by
  unfold kkOf at h
  split at h
  · rename_i k hk; cases h; exact .inl ⟨rfl, k, hk⟩
  · rename_i hk; cases h; exact .inr (.inl ⟨rfl, hk⟩)
  · rename_i fs hk
    simp only [Option.map_eq_some_iff] at h
    obtain ⟨n, hn, rfl⟩ := h
    exact .inr (.inr ⟨n, rfl, hn⟩)
  · cases h

theorem run_check_ints (em : Bool) (d : Nat) {fields : List Field} {us : List Value} : ∀ (l : List Field) (s : Nat) (xs : List AV), (∀ (k : Nat) f, l[k]? = some f → f.name ≠ "_" ∧ f.offset = s + k ∧ ∃ q, P.underlying f.type = some (.int q)) →
    xs.length = l.length → RVs w L σ xs (us.drop s) → (intsEq xs xs).isSome = true →
    (forIn l PUnit.unit fun f _ => (do
        if f.name ≠ "_" then Instr.checkKey em (d + 1) f.type (← part f.type us.toArray f.offset)
        pure (ForInStep.yield PUnit.unit) : Sem (ForInStep PUnit))).run P w = .ok PUnit.unit w
  | [], s, xs, _, hl, _, _ => by simp
  | f :: l, s, xs, hf, hl, hx, he => by
    cases xs with
    | nil => simp at hl
    | cons x xs =>
    obtain ⟨hn, ho, q, hq⟩ := hf 0 f rfl
    obtain ⟨r, hr⟩ := Option.isSome_iff_exists.1 he
    obtain ⟨k, a, b, r', rfl, e2, hr', _⟩ := intsEq_cons hr
    have hu : us[s]? = some (.int k a) := by
      have h1 := hx.1; simp at h1
      have h2 : us[s]? = some (us[s]'(by omega)) := List.getElem?_eq_getElem _
      have := hx.2 0 _ (us[s]'(by omega)) rfl (by simp [List.getElem?_drop, h2])
      rw [h2, this.int_inv]
    have hag : aggB P f.type = some false := by simp [aggB, hq]
    have p1 : (part f.type us.toArray f.offset).run P w = .ok (.int k a) w := by simp [part, run_agg hag, ho, hu]
    have ih := run_check_ints em d (fields := fields) (us := us) l (s + 1) xs (fun j g hj => by have := hf (j + 1) g hj; exact ⟨this.1, by rw [this.2.1]; omega, this.2.2⟩) (by simpa using hl)
      ⟨by have := hx.1; simp at this ⊢; omega, fun j c u hc hu => hx.2 (j + 1) c u hc (by rw [List.getElem?_drop] at hu ⊢; rw [← hu]; congr 1; omega)⟩ (by rw [hr']; rfl)
    have hc : (Instr.checkKey em (d + 1) f.type (.int k a)).run P w = .ok () w := by simp [Instr.checkKey, run_underlying hq]
    rw [List.forIn_cons]
    simp only [hn, ne_eq, not_false_eq_true, if_true, Sem.run_bind, p1, hc, Result.andThen_ok, Sem.run_pure]
    simpa [hn] using ih

theorem run_check {t : TypeId} {kk : KK} (h : kkOf P t = some kk) {k : AV} {v : Value} (hk : keyFit kk k = true) (hv : RV w L σ k v) (em : Bool) : (Instr.checkKey em 10000 t v).run P w = .ok () w := by
  rcases kkOf_spec h with ⟨rfl, q, hq⟩ | ⟨rfl, hq⟩ | ⟨n, rfl, hn⟩
  · cases k <;> simp only [keyFit, Bool.false_eq_true] at hk
    rename_i x
    cases x <;> simp only [keyFit, Bool.false_eq_true] at hk
    rw [hv.int_inv]
    change (Instr.checkKey em (9999 + 1) t _).run P w = _
    unfold Instr.checkKey
    simp [run_underlying hq]
  · cases k <;> simp only [keyFit, Bool.false_eq_true] at hk
    rename_i x
    cases x <;> simp only [keyFit, Bool.false_eq_true] at hk
    rw [hv.str_inv]
    change (Instr.checkKey em (9999 + 1) t _).run P w = _
    unfold Instr.checkKey
    simp [run_underlying hq]
  · cases k <;> simp only [keyFit, Bool.false_eq_true, Bool.and_eq_true, beq_iff_eq] at hk
    rename_i xs
    obtain ⟨us, rfl, r1⟩ := hv.agg_inv
    obtain ⟨fs, inf, hu1, hu2, hu3, hu4, hu5, hu6, hu7⟩ := intsB_spec hn
    have := run_check_ints em 9998 (fields := fs.toList) fs.toList 0 xs (us := us) (fun k f hk => by have := hu7 k f (by simpa using hk); exact ⟨this.1, by rw [this.2.1]; omega, this.2.2⟩) (by rw [hk.1, ← hu4]; simp) (by simpa using r1) hk.2
    change (Instr.checkKey em (9999 + 1) t _).run P w = _
    unfold Instr.checkKey
    simp only [Sem.run_bind, run_underlying hu1, Result.andThen_ok]
    simp at this ⊢
    rw [this]; rfl

/-- the values of two keys that are the same -/
theorem keyEq_val {kk : KK} {x y : AV} {r : Bool} {u v : Value} (h : keyEq kk x y = some r) (hu : RV w L σ x u) (hv : RV w L σ y v) (hr : r = true) : u = v := by
  subst hr
  cases kk with
  | int =>
    cases x <;> try (simp [keyEq] at h; done)
    cases y <;> try (simp [keyEq] at h; done)
    rename_i x y
    cases x <;> cases y <;> simp [keyEq] at h
    obtain ⟨rfl, rfl⟩ := h
    rw [hu.int_inv, hv.int_inv]
  | str =>
    cases x <;> try (simp [keyEq] at h; done)
    cases y <;> try (simp [keyEq] at h; done)
    rename_i x y
    cases x <;> cases y <;> simp [keyEq] at h
    subst h
    rw [hu.str_inv, hv.str_inv]
  | ints n =>
    cases x <;> try (simp [keyEq] at h; done)
    cases y <;> try (simp [keyEq] at h; done)
    rename_i xs ys
    simp only [keyEq, Option.ite_none_right_eq_some] at h
    obtain ⟨us, rfl, r1⟩ := hu.agg_inv
    obtain ⟨vs, rfl, r2⟩ := hv.agg_inv
    obtain ⟨hln, h⟩ := h
    clear hln
    have : us = vs := by
      clear hu hv
      induction xs generalizing ys us vs with
      | nil =>
        cases ys with
        | nil => have h1 := r1.1; have h2 := r2.1; cases us <;> cases vs <;> simp at h1 h2 ⊢
        | cons y ys => simp [intsEq] at h
      | cons x xs ih =>
        cases ys with
        | nil => simp [intsEq] at h
        | cons y ys =>
        obtain ⟨k, a, b, r', rfl, rfl, hr', e⟩ := intsEq_cons h
        cases us with
        | nil => have := r1.1; simp at this
        | cons u us =>
        cases vs with
        | nil => have := r2.1; simp at this
        | cons v vs =>
        have e1 := (r1.2 0 _ u rfl rfl).int_inv
        have e2 := (r2.2 0 _ v rfl rfl).int_inv
        have e' : a = b ∧ r' = true := by
          have := e.symm
          simpa using this
        rw [e'.2] at hr'
        rw [e1, e2, e'.1, ih ys us ⟨by have := r1.1; simpa using this, fun i c v hc hv => r1.2 (i + 1) c v hc hv⟩ vs ⟨by have := r2.1; simpa using this, fun i c v hc hv => r2.2 (i + 1) c v hc hv⟩ hr']
    rw [this]

theorem sameBits_int (n : Nat) : ∀ (xs : List AV) (us : List Value), RVs w L σ xs us → (intsEq xs xs).isSome = true → ((us.zip us).all fun (x, y) => Instr.sameBits n x y) = true
  | [], us, h, _ => by have := h.1; cases us <;> simp_all
  | x :: xs, us, h, he => by
    obtain ⟨r, hr⟩ := Option.isSome_iff_exists.1 he
    obtain ⟨k, a, b, r', rfl, e2, hr', _⟩ := intsEq_cons hr
    cases us with
    | nil => have := h.1; simp at this
    | cons u us =>
    have e1 := (h.2 0 _ u rfl rfl).int_inv
    subst e1
    have ih := sameBits_int n xs us ⟨by have := h.1; simpa using this, fun i c v hc hv => h.2 (i + 1) c v hc hv⟩ (by rw [hr']; rfl)
    simp only [List.zip_cons_cons, List.all_cons, ih, Bool.and_true]
    cases n <;> simp [Instr.sameBits]

theorem run_stays {kk : KK} {x : AV} {u : Value} (hx : keyFit kk x = true) (hu : RV w L σ x u) : (Instr.keyThatStays u u).run P w = .ok u w := by
  have : Instr.sameBits 10000 u u = true := by
    cases kk with
    | int =>
      cases x <;> simp only [keyFit, Bool.false_eq_true] at hx
      rename_i x
      cases x <;> simp only [keyFit, Bool.false_eq_true] at hx
      rw [hu.int_inv]; simp [Instr.sameBits]
    | str =>
      cases x <;> simp only [keyFit, Bool.false_eq_true] at hx
      rename_i x
      cases x <;> simp only [keyFit, Bool.false_eq_true] at hx
      rw [hu.str_inv]
      show (_ == _) = true
      simp [bytes_beq]
    | ints n =>
      cases x <;> simp only [keyFit, Bool.false_eq_true, Bool.and_eq_true] at hx
      obtain ⟨us, rfl, r1⟩ := hu.agg_inv
      have := sameBits_int 9999 _ us r1 hx.2
      simp only [Instr.sameBits, beq_self_eq_true, Bool.true_and]
      simpa using this
  simp [Instr.keyThatStays, this]

/-- the key's place, against the model -/
theorem run_find {t : TypeId} {kk : KK} (h : kkOf P t = some kk) {k : AV} {v : Value} (hv : RV w L σ k v) : ∀ (es : List (AV × AV)) (ms : List MapEntry) (i : Nat) {r : Option (Nat × AV)}, ms.length = es.length →
    (∀ (j : Nat) e m, es[j]? = some e → ms[j]? = some m → RE w L σ e m) → mfind kk k es i = some r →
    match r with
    | none => (∃ d, P.underlying t = some d ∧ Instr.findNow d v ms i = some none) ∨ (intsB P t).isSome = true ∧ (Instr.findAsking t v ms i).run P w = .ok none w
    | some (p, x) => ∃ j e m, p = i + j ∧ es[j]? = some e ∧ ms[j]? = some m ∧ e.2 = x ∧ m.key = v ∧
        ((∃ d, P.underlying t = some d ∧ Instr.findNow d v ms i = some (some (p, m.val))) ∨ (intsB P t).isSome = true ∧ (Instr.findAsking t v ms i).run P w = .ok (some (p, m.val)) w)
  | [], ms, i, r, hl, _, hr => by
    have : ms = [] := by simpa using hl
    subst this
    simp only [mfind, Option.some.injEq] at hr
    subst hr
    rcases kkOf_spec h with ⟨rfl, q, hq⟩ | ⟨rfl, hq⟩ | ⟨n, rfl, hn⟩
    · exact .inl ⟨_, hq, rfl⟩
    · exact .inl ⟨_, hq, rfl⟩
    · exact .inr ⟨by rw [hn]; rfl, by simp [Instr.findAsking]⟩
  | e :: es, ms, i, r, hl, hre, hr => by
    cases ms with
    | nil => simp at hl
    | cons m ms =>
    have hk := hre 0 e m rfl rfl
    simp only [mfind] at hr
    -- one entry
    have one : ∀ {b}, keyEq kk k e.1 = some b → (∃ d, P.underlying t = some d ∧ Instr.sameNow d v m.key = some b) ∨ (intsB P t).isSome = true ∧ (Op.equal t v m.key).run P w = .ok b w := fun {b} hb => by
      rcases kkOf_spec h with ⟨rfl, q, hq⟩ | ⟨rfl, hq⟩ | ⟨n, rfl, hn⟩
      · left
        refine ⟨_, hq, ?_⟩
        cases k <;> try (simp [keyEq] at hb; done)
        generalize hE : e.1 = y at hb hk
        cases y <;> try (simp [keyEq] at hb; done)
        rename_i x y
        cases x <;> cases y <;> simp [keyEq] at hb
        obtain ⟨e1, rfl⟩ := hb
        have h1 := hk.1
        rw [hE] at h1
        rw [hv.int_inv, h1.int_inv, e1]
        simp [Instr.sameNow]
      · left
        refine ⟨_, hq, ?_⟩
        cases k <;> try (simp [keyEq] at hb; done)
        generalize hE : e.1 = y at hb hk
        cases y <;> try (simp [keyEq] at hb; done)
        rename_i x y
        cases x <;> cases y <;> simp [keyEq] at hb
        have h1 := hk.1
        rw [hE] at h1
        rw [hv.str_inv, h1.str_inv]
        rename_i s t
        simp only [Instr.sameNow, ← hb, Option.some.injEq]
        rw [Bool.eq_iff_iff, bytes_beq]
        simp
      · right
        refine ⟨by rw [hn]; rfl, ?_⟩
        cases k <;> try (simp [keyEq] at hb; done)
        generalize hE : e.1 = y at hb hk
        cases y <;> try (simp [keyEq] at hb; done)
        rename_i xs ys
        simp only [keyEq, Option.ite_none_right_eq_some] at hb
        have h1 := hk.1
        rw [hE] at h1
        obtain ⟨us, e1, r1⟩ := hv.agg_inv
        obtain ⟨vs, e2, r2⟩ := h1.agg_inv
        obtain ⟨fs, inf, hu1, hu2, hu3, hu4, hu5, hu6, hu7⟩ := intsB_spec hn
        have hfo : P.fieldsOf t = fs := by simp [Program.fieldsOf, hu1]
        rw [e1, e2]
        show (Op.equalIn 10000 t (.agg us.toArray) (.agg vs.toArray)).run P w = .ok b w
        rw [run_equalIn_agg w 9999 t _ _ (by rw [hfo]; exact hu1) hu2, hfo]
        exact eqFields_ints 9998 fs.toList 0 xs ys us vs b (fun k f hk => by have := hu7 k f (by simpa using hk); exact ⟨this.1, by rw [this.2.1]; omega, this.2.2⟩) (by rw [hb.1, ← hu4]; simp) (by simpa using r1) (by simpa using r2) hb.2
    split at hr
    · rename_i hb
      cases hr
      refine ⟨0, e, m, rfl, rfl, rfl, rfl, (keyEq_val hb hv hk.1 rfl).symm, ?_⟩
      rcases one hb with ⟨d, hd, h1⟩ | ⟨hs, h1⟩
      · exact .inl ⟨d, hd, by simp [Instr.findNow, h1]⟩
      · exact .inr ⟨hs, by simp [Instr.findAsking, h1]⟩
    · rename_i hb
      have ih := run_find h hv es ms (i + 1) (r := r) (by simpa using hl) (fun j e m he hm => hre (j + 1) e m he hm) hr
      have h0 := one hb
      cases r with
      | none =>
        dsimp only at ih ⊢
        rcases h0 with ⟨d, hd, h1⟩ | ⟨hs, h1⟩
        · rcases ih with ⟨d', hd', h2⟩ | ⟨hs, h2⟩
          · rw [hd] at hd'; cases hd'
            exact .inl ⟨d, hd, by simp [Instr.findNow, h1, h2]⟩
          · exfalso
            rw [Option.isSome_iff_exists] at hs
            obtain ⟨n, hn⟩ := hs
            obtain ⟨fs, _, hu1, _⟩ := intsB_spec hn
            rw [hd] at hu1; cases hu1
            simp [Instr.sameNow] at h1
        · rcases ih with ⟨d', hd', h2⟩ | ⟨hs', h2⟩
          · right
            refine ⟨hs, ?_⟩
            obtain ⟨n, hn⟩ := Option.isSome_iff_exists.1 hs
            obtain ⟨fs, _, hu1, _⟩ := intsB_spec hn
            rw [hd'] at hu1; cases hu1
            cases ms with
            | nil => simp [Instr.findAsking, h1]
            | cons m' ms => simp [Instr.findNow, Instr.sameNow] at h2
          · exact .inr ⟨hs, by simp [Instr.findAsking, h1, h2]⟩
      | some px =>
        obtain ⟨p, x⟩ := px
        dsimp only at ih ⊢
        obtain ⟨j, e', m', g1, g2, g3, g4, g5, g6⟩ := ih
        refine ⟨j + 1, e', m', by omega, g2, g3, g4, g5, ?_⟩
        rcases h0 with ⟨d, hd, h1⟩ | ⟨hs, h1⟩
        · rcases g6 with ⟨d', hd', h2⟩ | ⟨hs, h2⟩
          · rw [hd] at hd'; cases hd'
            exact .inl ⟨d, hd, by simp [Instr.findNow, h1, h2]⟩
          · exfalso
            obtain ⟨n, hn⟩ := Option.isSome_iff_exists.1 hs
            obtain ⟨fs, _, hu1, _⟩ := intsB_spec hn
            rw [hd] at hu1; cases hu1
            simp [Instr.sameNow] at h1
        · rcases g6 with ⟨d', hd', h2⟩ | ⟨hs', h2⟩
          · exfalso
            obtain ⟨n, hn⟩ := Option.isSome_iff_exists.1 hs
            obtain ⟨fs, _, hu1, _⟩ := intsB_spec hn
            rw [hd'] at hu1; cases hu1
            cases ms with
            | nil => simp [Instr.findNow] at h2
            | cons m' ms => simp [Instr.findNow, Instr.sameNow] at h2
          · exact .inr ⟨hs, by simp [Instr.findAsking, h1, h2]⟩
    · cases hr

theorem run_findKey' {t : TypeId} {v : Value} {ms : List MapEntry} {r : Option (Nat × Value)} (h : (∃ d, P.underlying t = some d ∧ Instr.findNow d v ms 0 = some r) ∨ (intsB P t).isSome = true ∧ (Instr.findAsking t v ms 0).run P w = .ok r w) :
    (Instr.findKey t v ms).run P w = .ok r w := by
  rcases h with ⟨d, hd, h⟩ | ⟨hs, h⟩
  · exact run_findKey hd h
  · obtain ⟨n, hn⟩ := Option.isSome_iff_exists.1 hs
    obtain ⟨fs, _, hu1, _⟩ := intsB_spec hn
    rw [run_findKey_eq w (by rw [hu1]), h]

/-- a map's block and its entries -/
theorem map_block (S : Sim L σ w) {id : Nat} {es : List (AV × AV)} (h : σ[id]? = some (.map es)) :
    ∃ ms clock, w.heap[(L id).a.block]? = some (.map ms clock) ∧ ms.toList.length = es.length ∧ ∀ (j : Nat) e m, es[j]? = some e → ms.toList[j]? = some m → RE w L σ e m := by
  obtain ⟨ms, clock, h1, h2, h3⟩ := S.obj id _ h
  exact ⟨ms, clock, h1, by simpa using h2, fun j e m he hm => h3 j e m he (by simpa using hm)⟩

theorem snd_mkmap (S : Sim L σ w) {t : TypeId} {kt et : TypeId} (ht : P.underlying t = some (.map kt et)) (ho : o.op = .makeMap t none) (h : astep P .mkmap fr σ K) : Yields1 P o a L σ w K := by
  have hf : ∀ b c, Foot { a := ⟨w.heap.size, 0, none⟩ } (.map []) b c → b = w.heap.size := fun b c h => h
  have st := extend_step L σ (.map #[] 0) { a := ⟨w.heap.size, 0, none⟩ } (.map []) hf
  have S' := extend_sim S (.map #[] 0) { a := ⟨w.heap.size, 0, none⟩ } (.map []) hf ⟨#[], 0, by
    show (w.heap.push _)[w.heap.size]? = _
    simp, rfl, by simp⟩
  refine ⟨.map σ.length, .map (some w.heap.size), _, _, _, .inl ?_, st, S', ?_, h⟩
  · simp [execOp, ho, Instr.makeMap, newObj, Sem.run]
  · have := RV.map (w := w.alloc (.map #[] 0)) (L := Lput L σ.length { a := ⟨w.heap.size, 0, none⟩ }) (σ := σ ++ [.map []]) σ.length ⟨.map [], by simp, by simp [AObj.kind]⟩
    rw [Lput_same] at this
    exact this

theorem snd_mget (S : Sim L σ w) (F : FR w L σ fr a.tmps) {t kt et : TypeId} {m k : Operand} {ok : Bool} {kk : KK} {inf : TypeInfo} {z : Value} {za : AV} {m' k' : Opd} (ht : P.underlying t = some (.map kt et)) (hkk : kkOf P kt = some kk)
    (hi : P.info? et = some inf) (hz : inf.zero = some z) (hza : litA z = some za) (hm : opd m = some m') (hk : opd k = some k') (ho : o.op = .lookup t m k ok) (h : astep P (.mget kk ok za m' k') fr σ K) : Yields1 P o a L σ w K := by
  simp only [astep, mgetC] at h
  have hv := ev_sound F hm
  have hu := ev_sound F hk
  have hzero : (zeroValue et).run P w = .ok z w := by simp [zeroValue, typeInfo, hi, hz]
  split at h
  · rename_i es hes
    obtain ⟨hfit, h⟩ := h
    have hc := run_check hkk hfit hu
    -- the entries in the model
    obtain ⟨ms, hget, hl, hre⟩ : ∃ ms : Array MapEntry, (a.eval m = .map none ∧ ms = #[] ∨ ∃ r clock, a.eval m = .map (some r) ∧ w.heap[r]? = some (.map ms clock)) ∧ ms.toList.length = es.length ∧ ∀ (j : Nat) e x, es[j]? = some e → ms.toList[j]? = some x → RE w L σ e x := by
      generalize ev fr m' = M at hes hv
      cases M <;> simp only [entriesOf] at hes <;> try (cases hes; done)
      · rename_i x
        cases x <;> simp only [entriesOf] at hes <;> try (cases hes; done)
        cases hes
        exact ⟨#[], .inl ⟨hv.nilmap_inv, rfl⟩, rfl, by simp⟩
      · rename_i id
        split at hes
        · rename_i es' hes'
          cases hes
          obtain ⟨ms, clock, h1, h2, h3⟩ := map_block S hes'
          exact ⟨ms, .inr ⟨_, clock, hv.map_inv.1, h1⟩, h2, h3⟩
        · cases hes
    have fin : ∀ {r v}, (Instr.lookup t (a.eval m) (a.eval k) ok).run P w = .ok v w → RV w L σ r v → K r σ → Yields1 P o a L σ w K := fun {r v} h1 h2 h3 =>
      .same S (r := r) (v := v) (by simp [execOp, ho, h1]) h2 h3
    have fin2 : ∀ {x v} (is : Bool), RV w L σ x v → RV w L σ (mgetR ok x is) (if ok then .tuple #[v, .bool is] else v) := fun {x v} is hx => by
      cases ok
      · exact hx
      · exact .tup [x, .d (.bool is)] [v, .bool is] rfl (fun i c u hc hu => by
          match i with
          | 0 => simp at hc hu; subst hc hu; exact hx
          | 1 => simp at hc hu; subst hc hu; exact .d _ _ (.bool _)
          | n + 2 => simp at hc)
    split at h
    · rename_i p v hf
      have := run_find hkk hu es ms.toList 0 hl hre hf
      obtain ⟨j, e, x, e1, e2, e3, e4, e5, e6⟩ := this
      have hrun := run_findKey' e6
      refine fin (v := if ok then .tuple #[x.val, .bool true] else x.val) ?_ (fin2 true (by rw [← e4]; exact (hre j e x e2 e3).2)) h
      rcases hget with ⟨hmn, rfl⟩ | ⟨rr, clock, hmn, hh⟩
      · simp only [Instr.lookup, Sem.run_bind, run_underlying ht, Result.andThen_ok, hmn, hc, hrun, Sem.run_pure]
      · simp only [Instr.lookup, Sem.run_bind, run_underlying ht, Result.andThen_ok, hmn, getmap hh, hc, hrun, Sem.run_pure]
    · rename_i hf
      have := run_find hkk hu es ms.toList 0 hl hre hf
      have hrun := run_findKey' this
      refine fin (v := if ok then .tuple #[z, .bool false] else z) ?_ (fin2 false (litA_sound hza)) h
      rcases hget with ⟨hmn, rfl⟩ | ⟨rr, clock, hmn, hh⟩
      · simp only [Instr.lookup, Sem.run_bind, run_underlying ht, Result.andThen_ok, hmn, hc, hrun, hzero, Sem.run_pure]
      · simp only [Instr.lookup, Sem.run_bind, run_underlying ht, Result.andThen_ok, hmn, getmap hh, hc, hrun, hzero, Sem.run_pure]
    · exact h.elim
  · exact h.elim

theorem snd_mset (S : Sim L σ w) (F : FR w L σ fr a.tmps) {t kt et : TypeId} {m k x : Operand} {kk : KK} {m' k' x' : Opd} (ht : P.underlying t = some (.map kt et)) (hkk : kkOf P kt = some kk)
    (hm : opd m = some m') (hk : opd k = some k') (hx : opd x = some x') (ho : o.op = .mapUpdate t m k x ∨ o.op = .insert t m k x) (h : astep P (.mset kk m' k' x') fr σ K) : Yields1 P o a L σ w K := by
  simp only [astep, msetC] at h
  have hv := ev_sound F hm
  have hu := ev_sound F hk
  have hz := ev_sound F hx
  split at h
  · rename_i id hid
    rw [hid] at hv
    split at h
    · rename_i es hes
      obtain ⟨hfit, h⟩ := h
      have hc := run_check hkk hfit hu
      obtain ⟨ms, clock, h1, h2, h3⟩ := map_block S hes
      have hlt := (Array.getElem?_eq_some_iff.1 h1).1
      have fin : ∀ {es' : List (AV × AV)} {ms' : Array MapEntry} {clock' : Nat}, (Instr.mapUpdate t (a.eval m) (a.eval k) (a.eval x)).run P w = .ok () { w with heap := w.heap.setIfInBounds (L id).a.block (.map ms' clock') } →
          ms'.size = es'.length → (∀ (j : Nat) e y, es'[j]? = some e → ms'[j]? = some y → RE w L σ e y) → K (.tup []) (σ.set id (.map es')) → Yields1 P o a L σ w K := fun {es' ms' clock'} g1 g2 g3 g4 => by
        obtain ⟨st, S'⟩ := obj_set S hes (x' := .map es') rfl (by simp [AObj.kind]) (by simp [AObj.kind]) (.map ms' clock') (fun w' e st => by
          subst e
          refine ⟨ms', clock', ?_, g2, fun j e y hj hy => (g3 j e y hj hy).mono st⟩
          show (w.heap.setIfInBounds _ _)[_]? = _
          simp [hlt])
        refine ⟨.tup [], .tuple #[], L, _, _, .inr ⟨?_, rfl⟩, st, S', .tup [] [] rfl (by simp), g4⟩
        rcases ho with ho | ho <;> simp [execOp, ho, g1]
      have hme := hv.map_inv.1
      split at h
      · rename_i p v hf
        obtain ⟨j, e, y, e1, e2, e3, e4, e5, e6⟩ := run_find hkk hu es ms.toList 0 h2 h3 hf
        have hrun := run_findKey' e6
        have hpj : p = j := by omega
        subst hpj
        have hky : ms[p]? = some y := by simpa using e3
        refine fin (es' := es.set p (ev fr k', ev fr x')) (ms' := ms.modify p fun e => { e with key := a.eval k, val := a.eval x }) (clock' := clock) ?_ (by simpa using h2) (fun j' e' y' hj hy => ?_) h
        · have hst := run_stays (P := P) hfit hu
          simp only [Instr.mapUpdate, Sem.run_bind, run_underlying ht, Result.andThen_ok, hme, getmap h1, hc, hrun, hky, Option.map_some, Option.getD_some, e5, hst, setmap _ h1]
        · rw [Array.getElem?_modify] at hy
          rw [List.getElem?_set] at hj
          split at hj
          · rename_i hpe
            subst hpe
            split at hj
            · cases hj
              rw [if_pos rfl, hky] at hy
              cases hy
              exact ⟨hu, hz⟩
            · cases hj
          · rename_i hpe
            rw [if_neg hpe] at hy
            exact h3 j' e' y' hj (by simpa using hy)
      · rename_i hf
        have hrun := run_findKey' (run_find hkk hu es ms.toList 0 h2 h3 hf)
        refine fin (es' := es ++ [(ev fr k', ev fr x')]) (ms' := ms.push { key := a.eval k, val := a.eval x, born := clock }) (clock' := clock + 1) ?_ (by simpa using h2) (fun j' e' y' hj hy => ?_) h
        · simp only [Instr.mapUpdate, Sem.run_bind, run_underlying ht, Result.andThen_ok, hme, getmap h1, hc, hrun, setmap _ h1]
        · have hms : ms.size = es.length := by simpa using h2
          rw [Array.getElem?_push] at hy
          split at hy
          · rename_i hpe
            cases hy
            rw [hpe, hms, List.getElem?_concat_length] at hj
            cases hj
            exact ⟨hu, hz⟩
          · rename_i hpe
            have hlt2 : j' < ms.size := (Array.getElem?_eq_some_iff.1 hy).1
            rw [List.getElem?_append_left (by omega)] at hj
            exact h3 j' e' y' hj (by simpa using hy)
      · exact h.elim
    · exact h.elim
  · exact h.elim

theorem snd_mdel (S : Sim L σ w) (F : FR w L σ fr a.tmps) {c : Call} {t kt et : TypeId} {m k : Operand} {kk : KK} {m' k' : Opd} (ho : o.op = .call c) (hcal : c.callee = .builtin .delete) (hat : c.argTypes[0]? = some t) (hargs : c.args.toList = [m, k])
    (ht : P.underlying t = some (.map kt et)) (hkk : kkOf P kt = some kk)
    (hm : opd m = some m') (hk : opd k = some k') (h : astep P (.mdel kk m' k') fr σ K) : Yields1 P o a L σ w K := by
  have hargs' : c.args = #[m, k] := by apply Array.ext'; simpa using hargs
  simp only [astep, mdelC] at h
  have hv := ev_sound F hm
  have hu := ev_sound F hk
  have run : ∀ {w'}, (Builtin.delete_ c.argTypes o.type #[a.eval m, a.eval k]).run P w = .ok (.tuple #[]) w' → (execOp a.eval o).run P w = .ok (.value (.tuple #[])) w' := fun {w'} h1 => by
    simp [execOp, ho, resolve, hcal, hargs', invoke, builtin, h1]
  split at h
  · rename_i id hid
    rw [hid] at hv
    split at h
    · rename_i es hes
      obtain ⟨hfit, h⟩ := h
      have hc := run_check hkk hfit hu
      obtain ⟨ms, clock, h1, h2, h3⟩ := map_block S hes
      have hlt := (Array.getElem?_eq_some_iff.1 h1).1
      have fin : ∀ {es' : List (AV × AV)} {ms' : Array MapEntry} {clock' : Nat}, (Builtin.delete_ c.argTypes o.type #[a.eval m, a.eval k]).run P w = .ok (.tuple #[]) { w with heap := w.heap.setIfInBounds (L id).a.block (.map ms' clock') } →
          ms'.size = es'.length → (∀ (j : Nat) e y, es'[j]? = some e → ms'[j]? = some y → RE w L σ e y) → K (.tup []) (σ.set id (.map es')) → Yields1 P o a L σ w K := fun {es' ms' clock'} g1 g2 g3 g4 => by
        obtain ⟨st, S'⟩ := obj_set S hes (x' := .map es') rfl (by simp [AObj.kind]) (by simp [AObj.kind]) (.map ms' clock') (fun w' e st => by
          subst e
          refine ⟨ms', clock', ?_, g2, fun j e y hj hy => (g3 j e y hj hy).mono st⟩
          show (w.heap.setIfInBounds _ _)[_]? = _
          simp [hlt])
        exact ⟨.tup [], .tuple #[], L, _, _, .inl (run g1), st, S', .tup [] [] rfl (by simp), g4⟩
      have hme := hv.map_inv.1
      split at h
      · rename_i p v hf
        obtain ⟨j, e, y, e1, e2, e3, e4, e5, e6⟩ := run_find hkk hu es ms.toList 0 h2 h3 hf
        have hrun := run_findKey' e6
        have hpj : p = j := by omega
        subst hpj
        have hms : ms.size = es.length := by simpa using h2
        have hplt := lt_of_get e2
        refine fin (es' := es.eraseIdx p) (ms' := ms.eraseIdxIfInBounds p) (clock' := clock) ?_ ?_ (fun j' e' y' hj hy => ?_) h
        · simp only [Builtin.delete_, List.getElem?_toArray, List.getElem?_cons_zero, List.getElem?_cons_succ, hat, Sem.run_bind, run_underlying ht, Result.andThen_ok, hme, getmap h1, hc, hrun, setmap _ h1, Sem.run_pure]
        · rw [Array.eraseIdxIfInBounds, dif_pos (by omega)]
          simp [List.length_eraseIdx, hplt, hms]
        · rw [Array.eraseIdxIfInBounds, dif_pos (by omega), ← Array.getElem?_toList, Array.toList_eraseIdx] at hy
          rw [List.getElem?_eraseIdx] at hj hy
          split at hj
          · rename_i hlt'
            rw [if_pos hlt'] at hy
            exact h3 j' e' y' hj hy
          · rename_i hlt'
            rw [if_neg hlt'] at hy
            exact h3 (j' + 1) e' y' hj hy
      · rename_i hf
        have hrun := run_findKey' (run_find hkk hu es ms.toList 0 h2 h3 hf)
        have hset : σ.set id (.map es) = σ := by
          apply List.ext_getElem?
          intro j
          rw [List.getElem?_set]
          split
          · rename_i e; subst e; rw [hes, if_pos (lt_of_get hes)]
          · rfl
        refine fin (es' := es) (ms' := ms) (clock' := clock) ?_ (by simpa using h2) (fun j' e' y' hj hy => h3 j' e' y' hj (by simpa using hy)) (by rw [hset]; exact h)
        simp only [Builtin.delete_, List.getElem?_toArray, List.getElem?_cons_zero, List.getElem?_cons_succ, hat, Sem.run_bind, run_underlying ht, Result.andThen_ok, hme, getmap h1, hc, hrun, setmap _ h1, Sem.run_pure]
      · exact h.elim
    · exact h.elim
  · rename_i hid
    rw [hid] at hv
    obtain ⟨hfit, h⟩ := h
    have hc := run_check hkk hfit hu
    refine .same S (r := .tup []) (v := .tuple #[]) (run ?_) (.tup [] [] rfl (by simp)) h
    simp only [Builtin.delete_, List.getElem?_toArray, List.getElem?_cons_zero, List.getElem?_cons_succ, hat, Sem.run_bind, run_underlying ht, Result.andThen_ok, hv.nilmap_inv, hc, Sem.run_pure]
  · exact h.elim

theorem snd_isnil (S : Sim L σ w) (F : FR w L σ fr a.tmps) {op : BinOp} {t u : TypeId} {x y : Operand} {x' : Opd} (hn : nilCmp P op t y = true) (hx : opd x = some x') (ho : o.op = .binOp op t x y u)
    (h : astep P (.isnil (isNeq op) x') fr σ K) : Yields1 P o a L σ w K := by
  simp only [astep, isnilC] at h
  have hv := ev_sound F hx
  obtain ⟨e, ht, hy, hop⟩ : ∃ e, P.underlying t = some (.slice e) ∧ y = .const (.slice none 0 0) ∧ (op = .eql ∨ op = .neq) := by
    unfold nilCmp at hn
    split at hn
    · exact ⟨_, by assumption, rfl, .inl rfl⟩
    · exact ⟨_, by assumption, rfl, .inr rfl⟩
    · cases hn
  subst hy
  have fin : ∀ {b n c}, a.eval x = .slice b n c → K (.d (.bool (b.isNone != isNeq op))) σ → Yields1 P o a L σ w K := fun {b n c} h1 h2 => by
    refine .same S (r := .d (.bool (b.isNone != isNeq op))) (v := .bool (b.isNone != isNeq op)) ?_ (.d _ _ (.bool _)) h2
    have he : a.eval (.const (.slice none 0 0)) = .slice none 0 0 := rfl
    rcases hop with rfl | rfl
    · simp [execOp, ho, h1, he, eqGuard_at_slice, Lib.run_eql_slice_nil w t e b n c 0 0 ht, isNeq]
    · have := run_neq_slice_nil_any w t e b n c 0 0 ht
      simp [execOp, ho, h1, he, eqGuard_at_slice, this, isNeq]
  split at h
  · rename_i hes
    obtain ⟨b, cap, hX, _⟩ := (hv.esOf_inv hes).len
    refine fin hX ?_
    cases b with
    | none => cases hq : isNeq op <;> simp <;> first | exact h.1 | exact h.2
    | some _ => cases hq : isNeq op <;> simp <;> first | exact h.1 | exact h.2
  · rename_i e' es' hes
    obtain ⟨b, cap, hX, hle, hb⟩ := (hv.esOf_inv hes).len
    refine fin hX ?_
    cases b with
    | none => have := hb rfl; simp at hle; omega
    | some _ => simpa using h
  · split at h
    · rename_i hid
      rw [hid] at hv
      obtain ⟨hX, _⟩ := hv.bsl_inv
      exact fin hX (by simpa using h)
    · exact h.elim

end
end Go.AW
