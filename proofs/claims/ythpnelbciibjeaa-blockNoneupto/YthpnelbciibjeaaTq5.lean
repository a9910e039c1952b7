/- Contracts: the program's topics: a topic is trimmed; a group commits. -/
import Derived.Test.YthpnelbciibjeaaTq4
set_option linter.all false
set_option maxRecDepth 100000
set_option linter.unusedSimpArgs false
set_option linter.unusedVariables false
namespace Go.Proofs.Ythpnelbciibjeaa
open Go.AW

theorem c_clRecs {σ : List zc} {es : List (List D)} {K : AV → List zc → Prop} (he : ∀ e ∈ es, e.length = 1) (hn : es.length ≤ 1073741824) (hK : K (.own σ.length es) (σ ++ [.tok 1 es.length])) : zj Try.prog zaH [.d (.slice es)] σ K := by
  refine zj.tok he ?_ hK
  refine zdu zbh.is rfl (fun s => if s.length = σ.length then [] else [σ.length]) fun hl _ => zbh.goes ?_
  simp only [zbk, iN, bT, bF, eN, gF, gT, gFm, gTm, fl, nfl, gFl, gTl, il, cp, orC, anC, cA, bP, z1, z2, m1, List.map_cons, List.map_nil, zaI, zfm]
  cases es with
  | nil =>
    refine ⟨?_, ?_⟩
    · simp only [zah, zQ, zA]
      exact zlP (by simp) hl rfl (by simp)
    · simp only [zah, zF, zA, zaw, rep, zq, zgN, zan, zJ, zfQ]
      refine ⟨by simp, by simp, by simp, ?_⟩
      exact zgc hl (by simp) (by simp)
  | cons e es =>
    simp only [zah, zF, zA, zaw, rep, zq, zgN, zan, zJ, zfQ]
    refine ⟨he, by simp, by simp at hn ⊢; omega, ?_⟩
    exact zgc hl (by simp) (by simp)
section

variable {σ : List zc} {id m : Nat} {X : List zcH} {T : zaq} {O : Nat → Prop} {K : AV → List zc → Prop}

def trmF (T : zaq) (o : TOp) : TRes × zaq := match atF o.topic T.l 0 with
  | none => ((4, 0), T)
  | some i => match T.l[i]? with
    | none => ((4, 0), T)
    | some x => zle T i x o
theorem c_tpTrim {o : TOp} (h : zeB σ id T O) (hI : zdQ T)
    (hK : ∀ S, After σ id (trmF T o).2 O S → K (.tup [.d (.int .i64 (trmF T o).1.2), .d (.int .i64 (trmF T o).1.1)]) S) : zj Try.prog zcL [.box id 0, opA o] σ K := by
  have hT := h
  obtain ⟨m, X, hP, hR, hO⟩ := h
  refine zba zeF.is rfl fun hl _ => zeF.goes ?_
  have hb := hP.box
  have hm := hP.map
  have hb' : ∀ τ, (σ ++ τ)[id]? = _ := fun τ => zf hb
  have hm' : ∀ τ, (σ ++ τ)[m]? = _ := fun τ => zf hm
  have hf := zdr o.topic X 0
  have done : ∀ z, trmF T o = z → ∀ S, After σ id z.2 O S → K (.tup [.d (.int .i64 z.1.2), .d (.int .i64 z.1.1)]) S := fun z h => h ▸ hK
  clear hK
  simp only [zeJ, iN, bT, bF, eN, opA]
  cases hx : zfl o.topic X 0 with
  | none =>
    have hF : trmF T o = ((4, 0), T) := by rw [trmF, hR.no hx]
    rw [hx] at hf
    refine gq3 (zg hb' (zg hm' hf)) ?_
    exact zbE (done _ hF _ (.same hT _))
  | some q =>
    obtain ⟨i, p⟩ := q
    obtain ⟨h1, h2, k, y, h3, h4, h5⟩ := hR.yes hx
    rw [hx] at hf
    have hy := hI.tops y (List.mem_of_getElem? h4)
    have hpm := List.mem_of_getElem? h1
    have hp := hP.tops p hpm
    have hpb : ∀ τ, (σ ++ τ)[p.id]? = _ := fun τ => zf hp.b
    have hn := next_eq h5 hy
    have hlen := zD p.x.recs
    have hnx : p.x.next = p.x.base + p.x.recs.length := rfl
    have b0 : 0 ≤ p.x.base := by rw [h5.base]; exact hy.base
    have b1 : p.x.next ≤ 9007199254740992 := by rw [h5.next]; exact hy.next
    have b2 : p.x.recs.length ≤ 64 := by rw [h5.recs]; exact hy.recs
    have hF : trmF T o = zle T k y o := by rw [trmF, h3]; simp only [h4]
    have hyn : y.next = p.x.next := h5.next.symm
    have hyb : y.base = p.x.base := h5.base.symm
    cases c1 : decide (o.offset < p.x.base)
    rotate_left
    · have e1 : o.offset < p.x.base := by simpa using c1
      have hF' : trmF T o = ((72, 0), T) := by rw [hF, zle, if_pos (.inl (by omega))]
      refine gq3 (zg hb' (zg hm' (zg hf (zg hpb c1)))) ?_
      exact zbE (done _ hF' _ (.same hT _))
    · have e1 : ¬ o.offset < p.x.base := by simpa using c1
      refine gq3 (zg hb' (zg hm' (zg hf (zg hpb c1)))) ?_
      refine zhP (hpb _) hn ?_
      cases c2 : decide (o.offset > p.x.next)
      rotate_left
      · have e2 : o.offset > p.x.next := by simpa using c2
        have hF' : trmF T o = ((72, 0), T) := by rw [hF, zle, if_pos (.inr (by omega))]
        refine gq2 c2 ?_
        exact zbE (done _ hF' _ (.same hT _))
      · have e2 : ¬ o.offset > p.x.next := by simpa using c2
        have w1 : IntKind.i64.wrap (o.offset - p.x.base) = o.offset - p.x.base := zbJ (by omega) (by omega)
        simp only [zkN, Bool.false_eq_true, if_false]
        refine gq2 (zg c2 (zg hpb (zg w1 hlen))) ?_
        refine ⟨zlu _, ?_⟩
        obtain ⟨R, hR'⟩ : ∃ R, p.x.recs.drop (o.offset - p.x.base).toNat = R := ⟨_, rfl⟩
        have hes : List.drop (o.offset - p.x.base).toNat (List.take p.x.recs.length (zbK p.x.recs)) = zbK R := by
          rw [List.take_of_length_le (by omega), ← hR', zbK, zbK, List.map_drop]
        have hRl : R.length ≤ 64 := by rw [← hR', List.length_drop]; omega
        rw [hes]
        have hel := zD R
        refine c_clRecs (zlu _) (by omega) ?_
        obtain ⟨A, hA⟩ : ∃ A, zc.box [.d (.int .i64 o.kind), .d (.str o.topic), .d (.str o.group), .d (.int .i64 o.offset), .d (.slice (zbK o.recs))] = A := ⟨_, rfl⟩
        have l1 := zl hp.b; have l2 := zl hp.g; have l3 := zl hp.t
        have xs : ∀ Y τ, (σ ++ τ).set p.id Y = σ.set p.id Y ++ τ := fun Y τ => List.set_append_left _ _ l1
        have xg : ∀ Y τ, (σ.set p.id Y ++ τ)[p.id]? = some Y := fun Y τ => zf (List.getElem?_set_self l1)
        have xs2 : ∀ Y Z τ, (σ.set p.id Y ++ τ).set p.id Z = σ.set p.id Z ++ τ := fun Y Z τ => by rw [List.set_append_left _ _ (by simpa using l1), List.set_set]
        have xa : ∀ Y a τ, (σ.set p.id Y ++ a :: τ)[σ.length]? = some a := fun Y a τ => by rw [List.getElem?_append_right (by simp)]; simp
        refine gq2 (zg xs (zg hpb (zg xg (zg xs2 (zg xa hel))))) ?_
        rw [hA]
        have hne := hP.ne hpm hpm
        have g0 : ∀ j Y τ, j < σ.length → j ≠ p.id → (σ.set p.id Y ++ τ)[j]? = σ[j]? := fun j Y τ hj hne => by
          rw [List.getElem?_append_left (by simpa using hj), List.getElem?_set_ne (Ne.symm hne)]
        have hF' : trmF T o = ((0, o.offset), { T with l := T.l.set k ⟨y.name, o.offset, R, y.groups⟩ }) := by
          rw [hF, zle, if_neg (by omega), hyb, ← h5.recs, hR']
        refine zbE (done _ hF' _ ⟨OwnP id m (X.set i ⟨⟨p.x.name, o.offset, R, p.x.groups⟩, p.id, p.g, σ.length + 1⟩), ⟨m, _, hP.upd (p' := ⟨⟨p.x.name, o.offset, R, p.x.groups⟩, p.id, p.g, σ.length + 1⟩) h1 rfl rfl rfl (.inr (by simp)) (fun j hj e1 e2 e3 => g0 j _ _ (hP.own_lt hj) e1) ⟨xg _ _, ?_, ?_⟩, hR.set h1 h4 h5 ⟨h5.name, rfl, rfl, h5.gr⟩ rfl, fun j => Iff.rfl⟩, ⟨by simp, fun j hj hlt => g0 j _ _ hlt (fun e => hj ((hO j).2 (.inr (.inr ⟨p, hpm, .inl e⟩))))⟩, fun j hj => ?_⟩)
        · rw [g0 _ _ _ l2 (Ne.symm hne.2.1)]; exact hp.g
        · rw [List.getElem?_append_right (by simp)]; simp
        · rcases znF (p' := ⟨⟨p.x.name, o.offset, R, p.x.groups⟩, p.id, p.g, σ.length + 1⟩) h1 rfl rfl hj with hj | hj
          · exact .inl ((hO j).2 hj)
          · simp only at hj; omega
end

end Go.Proofs.Ythpnelbciibjeaa
