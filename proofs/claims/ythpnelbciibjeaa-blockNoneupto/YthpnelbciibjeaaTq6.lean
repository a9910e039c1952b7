/- Contracts: the program's topics: a group commits; an operation is done; a request comes. -/
import Derived.Test.YthpnelbciibjeaaTq5
set_option linter.all false
set_option maxRecDepth 100000
set_option linter.unusedSimpArgs false
set_option linter.unusedVariables false
namespace Go.Proofs.Ythpnelbciibjeaa
open Go.AW

section
variable {σ : List zc} {id m : Nat} {X : List zcH} {T : zaq} {O : Nat → Prop} {K : AV → List zc → Prop}
def zmC (T : zaq) (o : TOp) : TRes × zaq := match atF o.topic T.l 0 with
  | none => ((4, 0), T)
  | some i => match T.l[i]? with
    | none => ((4, 0), T)
    | some x => zdm T i x o
theorem grpM_put (n : List UInt8) (v : Int) (G : List (List UInt8 × Int)) : (match zhh n G 0 with | some q => (grpM G).set q.1 (.d (.str n), .d (.int .i64 v)) | none => grpM G ++ [(.d (.str n), .d (.int .i64 v))]) = grpM (putA n v G) := by
  unfold putA
  cases zhh n G 0 with
  | none => simp [grpM]
  | some q => simp [grpM, List.map_set]
theorem c_tpCommit {o : TOp} (h : zeB σ id T O) (hI : zdQ T)
    (hK : ∀ S, After σ id (zmC T o).2 O S → K (.tup [.d (.int .i64 (zmC T o).1.2), .d (.int .i64 (zmC T o).1.1)]) S) : zj Try.prog zci [.box id 0, opA o] σ K := by
  have hT := h
  obtain ⟨m, X, hP, hR, hO⟩ := h
  refine zba zdU.is rfl fun hl _ => zdU.goes ?_
  have hb := hP.box
  have hm := hP.map
  have hb' : ∀ τ, (σ ++ τ)[id]? = _ := fun τ => zf hb
  have hm' : ∀ τ, (σ ++ τ)[m]? = _ := fun τ => zf hm
  have hf := zdr o.topic X 0
  have done : ∀ z, zmC T o = z → ∀ S, After σ id z.2 O S → K (.tup [.d (.int .i64 z.1.2), .d (.int .i64 z.1.1)]) S := fun z h => h ▸ hK
  clear hK
  simp only [zdX, iN, bT, bF, eN, opA]
  cases hx : zfl o.topic X 0 with
  | none =>
    have hF : zmC T o = ((4, 0), T) := by rw [zmC, hR.no hx]
    rw [hx] at hf
    refine gq3 (zg hb' (zg hm' hf)) ?_
    exact zbE (done _ hF _ (.same hT _))
  | some q =>
    obtain ⟨i, p⟩ := q
    obtain ⟨h1, h2, k, y, h3, h4, h5⟩ := hR.yes hx
    rw [hx] at hf
    have hy := hI.tops y (List.mem_of_getElem? h4)
    have hpm := List.mem_of_getElem? h1
    have hp := hP.tops p hpm
    have hpb : ∀ τ, (σ ++ τ)[p.id]? = _ := fun τ => zf hp.b
    have hpg : ∀ τ, (σ ++ τ)[p.g]? = _ := fun τ => zf hp.g
    have hn := next_eq h5 hy
    have b0 : 0 ≤ p.x.base := by rw [h5.base]; exact hy.base
    have b1 : p.x.next ≤ 9007199254740992 := by rw [h5.next]; exact hy.next
    have hF : zmC T o = zdm T k y o := by rw [zmC, h3]; simp only [h4]
    have hyn : y.next = p.x.next := h5.next.symm
    have hg := zka o.group p.x.groups 0
    have hhad := h5.gr.had o.group
    have hgl : (grpM p.x.groups).length = y.groups.length := by rw [List.length_map, h5.gr.len]
    have l1 := zl hp.b; have l2 := zl hp.g; have l3 := zl hp.t
    have hne := hP.ne hpm hpm
    have xs : ∀ Y τ, (σ ++ τ).set p.g Y = σ.set p.g Y ++ τ := fun Y τ => List.set_append_left _ _ l2
    have xa : ∀ Y a τ, (σ.set p.g Y ++ a :: τ)[σ.length]? = some a := fun Y a τ => by rw [List.getElem?_append_right (by simp)]; simp
    have g0 : ∀ j Y τ, j < σ.length → j ≠ p.g → (σ.set p.g Y ++ τ)[j]? = σ[j]? := fun j Y τ hj hne => by
      rw [List.getElem?_append_left (by simpa using hj), List.getElem?_set_ne (Ne.symm hne)]
    have good : zmC T o = ((0, o.offset), { T with l := T.l.set k { y with groups := y.groups.take (zkc o.group y.groups) ++ (o.group, o.offset) :: y.groups.drop (zkc o.group y.groups + if (hadG o.group y.groups).isSome then 1 else 0) } }) →
        ∀ τ, EndsA K (some [.d (.int .i64 o.offset), .d (.int .i64 0)]) (σ.set p.g (.map (grpM (putA o.group o.offset p.x.groups))) ++ τ) := fun hF' τ => by
      refine zbE (done _ hF' _ ⟨OwnP id m (X.set i ⟨⟨p.x.name, p.x.base, p.x.recs, putA o.group o.offset p.x.groups⟩, p.id, p.g, p.t⟩), ⟨m, _, hP.upd (p' := ⟨⟨p.x.name, p.x.base, p.x.recs, putA o.group o.offset p.x.groups⟩, p.id, p.g, p.t⟩) h1 rfl rfl rfl (.inl rfl) (fun j hj e1 e2 e3 => g0 j _ _ (hP.own_lt hj) e2) ⟨?_, ?_, ?_⟩, hR.set h1 h4 h5 ⟨h5.name, h5.base, h5.recs, h5.gr.put _ _⟩ rfl, fun j => Iff.rfl⟩, ⟨by simp, fun j hj hlt => g0 j _ _ hlt (fun e => hj ((hO j).2 (.inr (.inr ⟨p, hpm, .inr (.inl e)⟩))))⟩, fun j hj => ?_⟩)
      · rw [g0 _ _ _ l1 hne.2.1]; exact hp.b
      · exact zf (List.getElem?_set_self l2)
      · rw [g0 _ _ _ l3 (Ne.symm hne.2.2.2.1)]; exact hp.t
      · rcases znF (p' := ⟨⟨p.x.name, p.x.base, p.x.recs, putA o.group o.offset p.x.groups⟩, p.id, p.g, p.t⟩) h1 rfl rfl hj with hj | hj
        · exact .inl ((hO j).2 hj)
        · exact .inl ((hO j).2 (.inr (.inr ⟨p, hpm, .inr (.inr hj)⟩)))
    have hput := grpM_put o.group o.offset p.x.groups
    obtain ⟨w, hw⟩ : ∃ w, (hadG o.group y.groups).getD 0 = w := ⟨_, rfl⟩
    cases hfa : zhh o.group p.x.groups 0 with
    | none =>
      rw [hfa] at hg hhad hput
      have hw0 : w = 0 := by rw [← hw, hhad]; rfl
      cases c1 : decide (o.offset < 0)
      rotate_left
      · have e1 : o.offset < 0 := by simpa using c1
        have hF' : zmC T o = ((72, 0), T) := by rw [hF, zdm, if_pos (.inl (by rw [hw]; omega))]
        refine gq3 (zg hb' (zg hm' (zg hf (zg hpb (zg hpg (zg hg c1)))))) ?_
        exact zbE (done _ hF' _ (.same hT _))
      have e1 : ¬ o.offset < 0 := by simpa using c1
      refine gq3 (zg hb' (zg hm' (zg hf (zg hpb (zg hpg (zg hg c1)))))) ?_
      refine zhP (hpb _) hn ?_
      cases c2 : decide (o.offset > p.x.next)
      rotate_left
      · have e2 : o.offset > p.x.next := by simpa using c2
        have hF' : zmC T o = ((72, 0), T) := by rw [hF, zdm, if_pos (.inr (by omega))]
        simp only [zkN]
        refine gq2 c2 ?_
        exact zbE (done _ hF' _ (.same hT _))
      have e2 : ¬ o.offset > p.x.next := by simpa using c2
      cases c3 : decide ((y.groups.length : Int) ≥ 8)
      rotate_left
      · have e3 : (y.groups.length : Int) ≥ 8 := by simpa using c3
        have hF' : zmC T o = ((6, 0), T) := by rw [hF, zdm, if_neg (by rw [hw]; omega), if_pos ⟨by rw [hhad]; rfl, by omega⟩]
        simp only [zkN, Bool.false_eq_true, if_false, if_true]
        refine gq2 (zg c2 (zg hpb (zg hpg (zg hgl c3)))) ?_
        exact zbE (done _ hF' _ (.same hT _))
      have e3 : ¬ (y.groups.length : Int) ≥ 8 := by simpa using c3
      have hF' := good (by rw [hF, zdm, if_neg (by rw [hw]; omega), if_neg (by omega)])
      simp only [zkN, Bool.false_eq_true, if_false, if_true]
      refine gq3 (zg c2 (zg hpb (zg hpg (zg hgl (zg c3 (zg hg (zg xs xa))))))) ?_
      simp only at hput
      rw [hput]
      exact hF' _
    | some q =>
      obtain ⟨j0, v⟩ := q
      rw [hfa] at hg hhad hput
      have hw0 : w = v := by rw [← hw, hhad]; rfl
      cases c1 : decide (o.offset < v)
      rotate_left
      · have e1 : o.offset < v := by simpa using c1
        have hF' : zmC T o = ((72, 0), T) := by rw [hF, zdm, if_pos (.inl (by rw [hw]; omega))]
        refine gq3 (zg hb' (zg hm' (zg hf (zg hpb (zg hpg (zg hg c1)))))) ?_
        exact zbE (done _ hF' _ (.same hT _))
      have e1 : ¬ o.offset < v := by simpa using c1
      refine gq3 (zg hb' (zg hm' (zg hf (zg hpb (zg hpg (zg hg c1)))))) ?_
      refine zhP (hpb _) hn ?_
      cases c2 : decide (o.offset > p.x.next)
      rotate_left
      · have e2 : o.offset > p.x.next := by simpa using c2
        have hF' : zmC T o = ((72, 0), T) := by rw [hF, zdm, if_pos (.inr (by omega))]
        simp only [zkN]
        refine gq2 c2 ?_
        exact zbE (done _ hF' _ (.same hT _))
      have e2 : ¬ o.offset > p.x.next := by simpa using c2
      have hF' := good (by rw [hF, zdm, if_neg (by rw [hw]; omega), if_neg (by rw [hhad]; simp)])
      simp only [zkN, Bool.false_eq_true, if_false, if_true]
      refine gq3 (zg c2 (zg hpb (zg hpg (zg hgl (zg hg (zg xs xa)))))) ?_
      simp only at hput
      rw [hput]
      exact hF' _
end

end Go.Proofs.Ythpnelbciibjeaa
