/- Contracts: the program's topics: a topic is trimmed; a group commits. -/
import Derived.Test.YthpnelbciibjeaaGreatTq4
set_option linter.all false
set_option maxRecDepth 100000
set_option linter.unusedSimpArgs false
set_option linter.unusedVariables false
namespace Go.Proofs.YthpnelbciibjeaaGreat
open Go.AW

theorem c_clRecs {σ : List zc} {es : List (List D)} {K : AV → List zc → Prop} (he : ∀ e ∈ es, e.length = 1) (hn : es.length ≤ 1073741824) (hK : K (.own σ.length es) (σ ++ [.tok 1 es.length])) : zt Tryz.prog zaM [.d (.slice es)] σ K := by
  refine zt.tok he ?_ hK
  refine zdG zbv.is rfl (fun s => if s.length = σ.length then [] else [σ.length]) fun hl _ => zbv.goes ?_
  simp only [zbx, iN, bT, bF, eN, gF, gT, gFm, gTm, fl, nfl, gFl, gTl, il, cp, orC, anC, cA, bP, z1, z2, m1, List.map_cons, List.map_nil, zaI, zfb]
  cases es with
  | nil =>
    refine ⟨?_, ?_⟩
    · simp only [zal, zX, zC]
      exact zng (by simp) hl rfl (by simp)
    · simp only [zal, zH, zC, zaG, rep, zq, zgP, zap, zJ, zfT]
      refine ⟨by simp, by simp, by simp, ?_⟩
      exact zgC hl (by simp) (by simp)
  | cons e es =>
    simp only [zal, zH, zC, zaG, rep, zq, zgP, zap, zJ, zfT]
    refine ⟨he, by simp, by simp at hn ⊢; omega, ?_⟩
    exact zgC hl (by simp) (by simp)
section

variable {σ : List zc} {id m : Nat} {X : List zdj} {T : zad} {O : Nat → Prop} {K : AV → List zc → Prop}

def trmF (T : zad) (o : TOp) : TRes × zad := match atF o.topic T.l 0 with
  | none => ((4, 0), T)
  | some i => match T.l[i]? with
    | none => ((4, 0), T)
    | some x => zms T i x o
theorem c_tpTrim {o : TOp} (h : zeA σ id T O) (hI : zcD T)
    (hK : ∀ S, After σ id (trmF T o).2 O S → K (.tup [.d (.int .i64 (trmF T o).1.2), .d (.int .i64 (trmF T o).1.1)]) S) : zt Tryz.prog zdn [.box id 0, opA o] σ K := by
  have hT := h
  obtain ⟨m, X, hP, hR, hO⟩ := h
  refine zbd zfd.is rfl fun hl _ => zfd.goes ?_
  have hb := hP.box
  have hm := hP.map
  have hb' : ∀ τ, (σ ++ τ)[id]? = _ := fun τ => zg hb
  have hm' : ∀ τ, (σ ++ τ)[m]? = _ := fun τ => zg hm
  have hf := zdC o.topic X 0
  have done : ∀ z, trmF T o = z → ∀ S, After σ id z.2 O S → K (.tup [.d (.int .i64 z.1.2), .d (.int .i64 z.1.1)]) S := fun z h => h ▸ hK
  clear hK
  simp only [zfg, iN, bT, bF, eN, opA]
  cases hx : zfJ o.topic X 0 with
  | none =>
    have hF : trmF T o = ((4, 0), T) := by rw [trmF, hR.no hx]
    rw [hx] at hf
    refine gq3 (zi hb' (zi hm' hf)) ?_
    exact zbN (done _ hF _ (.same hT _))
  | some q =>
    obtain ⟨i, p⟩ := q
    obtain ⟨h1, h2, k, y, h3, h4, h5⟩ := hR.yes hx
    rw [hx] at hf
    have hy := hI.tops y (List.mem_of_getElem? h4)
    have hpm := List.mem_of_getElem? h1
    have hp := hP.tops p hpm
    have hpb : ∀ τ, (σ ++ τ)[p.id]? = _ := fun τ => zg hp.b
    have hn := next_eq h5 hy
    have hlen := zE p.x.recs
    have hnx : p.x.next = p.x.base + p.x.recs.length := rfl
    have b0 : 0 ≤ p.x.base := by rw [h5.base]; exact hy.base
    have b1 : p.x.next ≤ 9007199254740992 := by rw [h5.next]; exact hy.next
    have b2 : p.x.recs.length ≤ 64 := by rw [h5.recs]; exact hy.recs
    have hF : trmF T o = zms T k y o := by rw [trmF, h3]; simp only [h4]
    have hyn : y.next = p.x.next := h5.next.symm
    have hyb : y.base = p.x.base := h5.base.symm
    cases c1 : decide (o.offset < p.x.base)
    rotate_left
    · have e1 : o.offset < p.x.base := by simpa using c1
      have hF' : trmF T o = ((72, 0), T) := by rw [hF, zms, if_pos (.inl (by omega))]
      refine gq3 (zi hb' (zi hm' (zi hf (zi hpb c1)))) ?_
      exact zbN (done _ hF' _ (.same hT _))
    · have e1 : ¬ o.offset < p.x.base := by simpa using c1
      refine gq3 (zi hb' (zi hm' (zi hf (zi hpb c1)))) ?_
      refine ziQ (hpb _) hn ?_
      cases c2 : decide (o.offset > p.x.next)
      rotate_left
      · have e2 : o.offset > p.x.next := by simpa using c2
        have hF' : trmF T o = ((72, 0), T) := by rw [hF, zms, if_pos (.inr (by omega))]
        refine gq2 c2 ?_
        exact zbN (done _ hF' _ (.same hT _))
      · have e2 : ¬ o.offset > p.x.next := by simpa using c2
        have w1 : IntKind.i64.wrap (o.offset - p.x.base) = o.offset - p.x.base := zaD (by omega) (by omega)
        simp only [zla, Bool.false_eq_true, if_false]
        refine gq2 (zi c2 (zi hpb (zi w1 hlen))) ?_
        refine ⟨zmK _, ?_⟩
        obtain ⟨R, hR'⟩ : ∃ R, p.x.recs.drop (o.offset - p.x.base).toNat = R := ⟨_, rfl⟩
        have hes : List.drop (o.offset - p.x.base).toNat (List.take p.x.recs.length (zby p.x.recs)) = zby R := by
          rw [List.take_of_length_le (by omega), ← hR', zby, zby, List.map_drop]
        have hRl : R.length ≤ 64 := by rw [← hR', List.length_drop]; omega
        rw [hes]
        have hel := zE R
        refine c_clRecs (zmK _) (by omega) ?_
        obtain ⟨A, hA⟩ : ∃ A, zc.box [.d (.int .i64 o.kind), .d (.str o.topic), .d (.str o.group), .d (.int .i64 o.offset), .d (.slice (zby o.recs))] = A := ⟨_, rfl⟩
        have l1 := zn hp.b; have l2 := zn hp.g; have l3 := zn hp.t
        have xs : ∀ Y τ, (σ ++ τ).set p.id Y = σ.set p.id Y ++ τ := fun Y τ => List.set_append_left _ _ l1
        have xg : ∀ Y τ, (σ.set p.id Y ++ τ)[p.id]? = some Y := fun Y τ => zg (List.getElem?_set_self l1)
        have xs2 : ∀ Y Z τ, (σ.set p.id Y ++ τ).set p.id Z = σ.set p.id Z ++ τ := fun Y Z τ => by rw [List.set_append_left _ _ (by simpa using l1), List.set_set]
        have xa : ∀ Y a τ, (σ.set p.id Y ++ a :: τ)[σ.length]? = some a := fun Y a τ => by rw [List.getElem?_append_right (by simp)]; simp
        refine gq2 (zi xs (zi hpb (zi xg (zi xs2 (zi xa hel))))) ?_
        rw [hA]
        have hne := hP.ne hpm hpm
        have g0 : ∀ j Y τ, j < σ.length → j ≠ p.id → (σ.set p.id Y ++ τ)[j]? = σ[j]? := fun j Y τ hj hne => by
          rw [List.getElem?_append_left (by simpa using hj), List.getElem?_set_ne (Ne.symm hne)]
        have hF' : trmF T o = ((0, o.offset), { T with l := T.l.set k ⟨y.name, o.offset, R, y.groups⟩ }) := by
          rw [hF, zms, if_neg (by omega), hyb, ← h5.recs, hR']
        refine zbN (done _ hF' _ ⟨OwnP id m (X.set i ⟨⟨p.x.name, o.offset, R, p.x.groups⟩, p.id, p.g, σ.length + 1⟩), ⟨m, _, hP.upd (p' := ⟨⟨p.x.name, o.offset, R, p.x.groups⟩, p.id, p.g, σ.length + 1⟩) h1 rfl rfl rfl (.inr (by simp)) (fun j hj e1 e2 e3 => g0 j _ _ (hP.own_lt hj) e1) ⟨xg _ _, ?_, ?_⟩, hR.set h1 h4 h5 ⟨h5.name, rfl, rfl, h5.gr⟩ rfl, fun j => Iff.rfl⟩, ⟨by simp, fun j hj hlt => g0 j _ _ hlt (fun e => hj ((hO j).2 (.inr (.inr ⟨p, hpm, .inl e⟩))))⟩, fun j hj => ?_⟩)
        · rw [g0 _ _ _ l2 (Ne.symm hne.2.1)]; exact hp.g
        · rw [List.getElem?_append_right (by simp)]; simp
        · rcases zpm (p' := ⟨⟨p.x.name, o.offset, R, p.x.groups⟩, p.id, p.g, σ.length + 1⟩) h1 rfl rfl hj with hj | hj
          · exact .inl ((hO j).2 hj)
          · simp only at hj; omega
end


section
variable {σ : List zc} {id m : Nat} {X : List zdj} {T : zad} {O : Nat → Prop} {K : AV → List zc → Prop}
def znZ (T : zad) (o : TOp) : TRes × zad := match atF o.topic T.l 0 with
  | none => ((4, 0), T)
  | some i => match T.l[i]? with
    | none => ((4, 0), T)
    | some x => zdz T i x o
theorem grpM_put (n : List UInt8) (v : Int) (G : List (List UInt8 × Int)) : (match zhW n G 0 with | some q => (grpM G).set q.1 (.d (.str n), .d (.int .i64 v)) | none => grpM G ++ [(.d (.str n), .d (.int .i64 v))]) = grpM (putA n v G) := by
  unfold putA
  cases zhW n G 0 with
  | none => simp [grpM]
  | some q => simp [grpM, List.map_set]
theorem c_tpCommit {o : TOp} (h : zeA σ id T O) (hI : zcD T)
    (hK : ∀ S, After σ id (znZ T o).2 O S → K (.tup [.d (.int .i64 (znZ T o).1.2), .d (.int .i64 (znZ T o).1.1)]) S) : zt Tryz.prog zcA [.box id 0, opA o] σ K := by
  have hT := h
  obtain ⟨m, X, hP, hR, hO⟩ := h
  refine zbd zeh.is rfl fun hl _ => zeh.goes ?_
  have hb := hP.box
  have hm := hP.map
  have hb' : ∀ τ, (σ ++ τ)[id]? = _ := fun τ => zg hb
  have hm' : ∀ τ, (σ ++ τ)[m]? = _ := fun τ => zg hm
  have hf := zdC o.topic X 0
  have done : ∀ z, znZ T o = z → ∀ S, After σ id z.2 O S → K (.tup [.d (.int .i64 z.1.2), .d (.int .i64 z.1.1)]) S := fun z h => h ▸ hK
  clear hK
  simp only [zek, iN, bT, bF, eN, opA]
  cases hx : zfJ o.topic X 0 with
  | none =>
    have hF : znZ T o = ((4, 0), T) := by rw [znZ, hR.no hx]
    rw [hx] at hf
    refine gq3 (zi hb' (zi hm' hf)) ?_
    exact zbN (done _ hF _ (.same hT _))
  | some q =>
    obtain ⟨i, p⟩ := q
    obtain ⟨h1, h2, k, y, h3, h4, h5⟩ := hR.yes hx
    rw [hx] at hf
    have hy := hI.tops y (List.mem_of_getElem? h4)
    have hpm := List.mem_of_getElem? h1
    have hp := hP.tops p hpm
    have hpb : ∀ τ, (σ ++ τ)[p.id]? = _ := fun τ => zg hp.b
    have hpg : ∀ τ, (σ ++ τ)[p.g]? = _ := fun τ => zg hp.g
    have hn := next_eq h5 hy
    have b0 : 0 ≤ p.x.base := by rw [h5.base]; exact hy.base
    have b1 : p.x.next ≤ 9007199254740992 := by rw [h5.next]; exact hy.next
    have hF : znZ T o = zdz T k y o := by rw [znZ, h3]; simp only [h4]
    have hyn : y.next = p.x.next := h5.next.symm
    have hg := zlb o.group p.x.groups 0
    have hhad := h5.gr.had o.group
    have hgl : (grpM p.x.groups).length = y.groups.length := by rw [List.length_map, h5.gr.len]
    have l1 := zn hp.b; have l2 := zn hp.g; have l3 := zn hp.t
    have hne := hP.ne hpm hpm
    have xs : ∀ Y τ, (σ ++ τ).set p.g Y = σ.set p.g Y ++ τ := fun Y τ => List.set_append_left _ _ l2
    have xa : ∀ Y a τ, (σ.set p.g Y ++ a :: τ)[σ.length]? = some a := fun Y a τ => by rw [List.getElem?_append_right (by simp)]; simp
    have g0 : ∀ j Y τ, j < σ.length → j ≠ p.g → (σ.set p.g Y ++ τ)[j]? = σ[j]? := fun j Y τ hj hne => by
      rw [List.getElem?_append_left (by simpa using hj), List.getElem?_set_ne (Ne.symm hne)]
    have good : znZ T o = ((0, o.offset), { T with l := T.l.set k { y with groups := y.groups.take (zle o.group y.groups) ++ (o.group, o.offset) :: y.groups.drop (zle o.group y.groups + if (hadG o.group y.groups).isSome then 1 else 0) } }) →
        ∀ τ, EndsA K (some [.d (.int .i64 o.offset), .d (.int .i64 0)]) (σ.set p.g (.map (grpM (putA o.group o.offset p.x.groups))) ++ τ) := fun hF' τ => by
      refine zbN (done _ hF' _ ⟨OwnP id m (X.set i ⟨⟨p.x.name, p.x.base, p.x.recs, putA o.group o.offset p.x.groups⟩, p.id, p.g, p.t⟩), ⟨m, _, hP.upd (p' := ⟨⟨p.x.name, p.x.base, p.x.recs, putA o.group o.offset p.x.groups⟩, p.id, p.g, p.t⟩) h1 rfl rfl rfl (.inl rfl) (fun j hj e1 e2 e3 => g0 j _ _ (hP.own_lt hj) e2) ⟨?_, ?_, ?_⟩, hR.set h1 h4 h5 ⟨h5.name, h5.base, h5.recs, h5.gr.put _ _⟩ rfl, fun j => Iff.rfl⟩, ⟨by simp, fun j hj hlt => g0 j _ _ hlt (fun e => hj ((hO j).2 (.inr (.inr ⟨p, hpm, .inr (.inl e)⟩))))⟩, fun j hj => ?_⟩)
      · rw [g0 _ _ _ l1 hne.2.1]; exact hp.b
      · exact zg (List.getElem?_set_self l2)
      · rw [g0 _ _ _ l3 (Ne.symm hne.2.2.2.1)]; exact hp.t
      · rcases zpm (p' := ⟨⟨p.x.name, p.x.base, p.x.recs, putA o.group o.offset p.x.groups⟩, p.id, p.g, p.t⟩) h1 rfl rfl hj with hj | hj
        · exact .inl ((hO j).2 hj)
        · exact .inl ((hO j).2 (.inr (.inr ⟨p, hpm, .inr (.inr hj)⟩)))
    have hput := grpM_put o.group o.offset p.x.groups
    obtain ⟨w, hw⟩ : ∃ w, (hadG o.group y.groups).getD 0 = w := ⟨_, rfl⟩
    cases hfa : zhW o.group p.x.groups 0 with
    | none =>
      rw [hfa] at hg hhad hput
      have hw0 : w = 0 := by rw [← hw, hhad]; rfl
      cases c1 : decide (o.offset < 0)
      rotate_left
      · have e1 : o.offset < 0 := by simpa using c1
        have hF' : znZ T o = ((72, 0), T) := by rw [hF, zdz, if_pos (.inl (by rw [hw]; omega))]
        refine gq3 (zi hb' (zi hm' (zi hf (zi hpb (zi hpg (zi hg c1)))))) ?_
        exact zbN (done _ hF' _ (.same hT _))
      have e1 : ¬ o.offset < 0 := by simpa using c1
      refine gq3 (zi hb' (zi hm' (zi hf (zi hpb (zi hpg (zi hg c1)))))) ?_
      refine ziQ (hpb _) hn ?_
      cases c2 : decide (o.offset > p.x.next)
      rotate_left
      · have e2 : o.offset > p.x.next := by simpa using c2
        have hF' : znZ T o = ((72, 0), T) := by rw [hF, zdz, if_pos (.inr (by omega))]
        simp only [zla]
        refine gq2 c2 ?_
        exact zbN (done _ hF' _ (.same hT _))
      have e2 : ¬ o.offset > p.x.next := by simpa using c2
      cases c3 : decide ((y.groups.length : Int) ≥ 8)
      rotate_left
      · have e3 : (y.groups.length : Int) ≥ 8 := by simpa using c3
        have hF' : znZ T o = ((6, 0), T) := by rw [hF, zdz, if_neg (by rw [hw]; omega), if_pos ⟨by rw [hhad]; rfl, by omega⟩]
        simp only [zla, Bool.false_eq_true, if_false, if_true]
        refine gq2 (zi c2 (zi hpb (zi hpg (zi hgl c3)))) ?_
        exact zbN (done _ hF' _ (.same hT _))
      have e3 : ¬ (y.groups.length : Int) ≥ 8 := by simpa using c3
      have hF' := good (by rw [hF, zdz, if_neg (by rw [hw]; omega), if_neg (by omega)])
      simp only [zla, Bool.false_eq_true, if_false, if_true]
      refine gq3 (zi c2 (zi hpb (zi hpg (zi hgl (zi c3 (zi hg (zi xs xa))))))) ?_
      simp only at hput
      rw [hput]
      exact hF' _
    | some q =>
      obtain ⟨j0, v⟩ := q
      rw [hfa] at hg hhad hput
      have hw0 : w = v := by rw [← hw, hhad]; rfl
      cases c1 : decide (o.offset < v)
      rotate_left
      · have e1 : o.offset < v := by simpa using c1
        have hF' : znZ T o = ((72, 0), T) := by rw [hF, zdz, if_pos (.inl (by rw [hw]; omega))]
        refine gq3 (zi hb' (zi hm' (zi hf (zi hpb (zi hpg (zi hg c1)))))) ?_
        exact zbN (done _ hF' _ (.same hT _))
      have e1 : ¬ o.offset < v := by simpa using c1
      refine gq3 (zi hb' (zi hm' (zi hf (zi hpb (zi hpg (zi hg c1)))))) ?_
      refine ziQ (hpb _) hn ?_
      cases c2 : decide (o.offset > p.x.next)
      rotate_left
      · have e2 : o.offset > p.x.next := by simpa using c2
        have hF' : znZ T o = ((72, 0), T) := by rw [hF, zdz, if_pos (.inr (by omega))]
        simp only [zla]
        refine gq2 c2 ?_
        exact zbN (done _ hF' _ (.same hT _))
      have e2 : ¬ o.offset > p.x.next := by simpa using c2
      have hF' := good (by rw [hF, zdz, if_neg (by rw [hw]; omega), if_neg (by rw [hhad]; simp)])
      simp only [zla, Bool.false_eq_true, if_false, if_true]
      refine gq3 (zi c2 (zi hpb (zi hpg (zi hgl (zi hg (zi xs xa)))))) ?_
      simp only at hput
      rw [hput]
      exact hF' _
end

end Go.Proofs.YthpnelbciibjeaaGreat
