/- Contracts: the program's topics: bounds, records; a topic more. -/
import Derived.Test.YtaocmalhjfakdaaTq2
set_option linter.all false
set_option maxRecDepth 100000
set_option linter.unusedSimpArgs false
set_option linter.unusedVariables false
namespace Go.Proofs.Ytaocmalhjfakdaa
open Go.AW

section
variable {σ : List AObj} {id m : Nat} {X : List PTop} {T : TTops} {O : Nat → Prop} {K : AV → List AObj → Prop}
theorem next_ok {x : TTopic} (h : TopI x) : -9223372036854775808 ≤ x.next ∧ x.next ≤ 9223372036854775807 := by
  have := h.base; have := h.next; have : x.next = x.base + x.recs.length := rfl; omega
theorem next_eq {x y : TTopic} (h : TR x y) (hI : TopI y) : -9223372036854775808 ≤ x.next ∧ x.next ≤ 9223372036854775807 := by rw [h.next]; exact next_ok hI
theorem c_tpBounds {n : List UInt8} (h : TpAt σ id T O) (hI : TopsI T) (hK : K (.tup [.d (.int .i64 (boundsF T n).1), .d (.int .i64 (boundsF T n).2.1), .d (.int .i64 (boundsF T n).2.2)]) σ) : ACall Try.prog n_topics_Topics_Bounds [.box id 0, .d (.str n)] σ K := by
  obtain ⟨m, X, hP, hR, hO⟩ := h
  refine acall_all e_topics_Topics_Bounds.is rfl fun hl _ => e_topics_Topics_Bounds.goes ?_
  simp only [S_topics_Topics_Bounds, iN, bT, bF, eN]
  refine gq11 ?_
  refine c_tpFind hP ?_
  cases hx : findX n X 0 with
  | none =>
    have hB : boundsF T n = (0, 0, 4) := by rw [boundsF, hR.no hx]
    rw [hB] at hK
    refine gq12 (show ((4 : Int) != 0) = true from rfl) ?_
    refine endsA ?_
    exact hK
  | some q =>
    obtain ⟨i, p⟩ := q
    obtain ⟨h1, h2, k, y, h3, h4, h5⟩ := hR.yes hx
    have hb := (hP.tops p (List.mem_of_getElem? h1)).b
    rw [boundsF, h3] at hK
    simp only [h4] at hK
    rw [← h5.base, ← h5.next] at hK
    refine gq12 hb ?_
    refine c_tpNext hb (next_eq h5 (hI.tops y (List.mem_of_getElem? h4))) ?_
    refine gq11 ?_
    exact endsA hK
theorem c_tpGet {n : List UInt8} {o : Int} (h : TpAt σ id T O) (hI : TopsI T) (hK : K (.tup [.d (.slice (bcs (getF T n o).1)), .d (.int .i64 (getF T n o).2)]) σ) : ACall Try.prog n_topics_Topics_Get [.box id 0, .d (.str n), .d (.int .i64 o)] σ K := by
  obtain ⟨m, X, hP, hR, hO⟩ := h
  refine acall_all e_topics_Topics_Get.is rfl fun hl _ => e_topics_Topics_Get.goes ?_
  simp only [S_topics_Topics_Get, iN, bT, bF, eN]
  refine gq11 ?_
  refine c_tpFind hP ?_
  cases hx : findX n X 0 with
  | none =>
    have hB : getF T n o = ([], 4) := by rw [getF, hR.no hx]
    rw [hB] at hK
    refine gq12 (show ((4 : Int) != 0) = true from rfl) ?_
    refine endsA ?_
    exact hK
  | some q =>
    obtain ⟨i, p⟩ := q
    obtain ⟨h1, h2, k, y, h3, h4, h5⟩ := hR.yes hx
    have hy := hI.tops y (List.mem_of_getElem? h4)
    have hb := (hP.tops p (List.mem_of_getElem? h1)).b
    rw [getF, h3] at hK
    simp only [h4] at hK
    rw [← h5.base, ← h5.next, ← h5.recs] at hK
    have hn := next_eq h5 hy
    have hlen := recsE_len p.x.recs
    have hnx : p.x.next = p.x.base + p.x.recs.length := rfl
    have hb0 : 0 ≤ p.x.base := by rw [h5.base]; exact hy.base
    cases c0 : decide (o < p.x.base)
    · cases c1 : decide (o ≥ p.x.next)
      · have e0 : ¬ o < p.x.base := by simpa using c0
        have e1 : ¬ p.x.next ≤ o := by simpa using c1
        rw [if_neg (by omega)] at hK
        have hw : IntKind.i64.wrap (o - p.x.base) = o - p.x.base := wrap64i (by omega) (by omega)
        obtain ⟨r, hr⟩ : ∃ r, p.x.recs[(o - p.x.base).toNat]? = some r := ⟨_, List.getElem?_eq_getElem (by omega)⟩
        rw [List.getD_eq_getElem?_getD, hr] at hK
        have hrl : r.length ≤ 64 := hy.each r (by rw [← h5.recs]; exact List.mem_of_getElem? hr)
        have hge : decide (o - p.x.base < (p.x.recs.length : Int)) = true := by simp; omega
        have hge0 : decide (0 ≤ o - p.x.base) = true := by simp; omega
        have hg := map_get (f := fun r => [D.slice (bcs r)]) hr
        refine gq12 (gqc0 hb c0) ?_
        refine c_tpNext hb hn ?_
        have hgr : (recsE p.x.recs)[(o - p.x.base).toNat]? = some [.slice (bcs r)] := hg
        refine gq12 (gqc0 hb (gqc0 c0 (gqc0 c1 (gqc0 hw (gqc0 hlen hgr))))) ?_
        refine c_clRec (by omega) ?_
        refine gq11 ?_
        exact endsA hK
      · have e1 : p.x.next ≤ o := by simpa using c1
        rw [if_pos (.inr e1)] at hK
        refine gq12 (gqc0 hb c0) ?_
        refine c_tpNext hb hn ?_
        refine gq12 (gqc0 hb (gqc0 c0 c1)) ?_
        exact endsA hK
    · have e0 : o < p.x.base := by simpa using c0
      rw [if_pos (.inl e0)] at hK
      refine gq12 (gqc0 hb c0) ?_
      exact endsA hK
theorem createF_some {n : List UInt8} {k : Nat} (h : atF n T.l 0 = some k) : createF T n = ((5, 0), T) := by rw [createF, h]; rfl
def After (σ : List AObj) (id : Nat) (T' : TTops) (O : Nat → Prop) (S : List AObj) : Prop := ∃ O', TpAt S id T' O' ∧ StO σ S O ∧ ∀ j, O' j → O j ∨ σ.length ≤ j
theorem After.same (h : TpAt σ id T O) (τ : List AObj) : After σ id T O (σ ++ τ) := ⟨O, h.app τ, .app _ _ _, fun j hj => .inl hj⟩
theorem c_tpCreate {n : List UInt8} (h : TpAt σ id T O) (hI : TopsI T)
    (hK : ∀ S, After σ id (createF T n).2 O S → K (.d (.int .i64 (createF T n).1.1)) S) : ACall Try.prog n_topics_Topics_create [.box id 0, .d (.str n)] σ K := by
  have hT := h
  obtain ⟨m, X, hP, hR, hO⟩ := h
  refine acall_all e_topics_Topics_create.is rfl fun hl _ => e_topics_Topics_create.goes ?_
  have hb := hP.box
  have hm := hP.map
  have hf := mfind_topM n X 0
  simp only [S_topics_Topics_create, iN, bT, bF, eN]
  cases hx : findX n X 0 with
  | some q =>
    obtain ⟨i, p⟩ := q
    obtain ⟨h1, h2, k, y, h3, h4, h5⟩ := hR.yes hx
    rw [createF_some h3] at hK
    rw [hx] at hf
    refine gq13 (gqc0 hb (gqc0 hm hf)) ?_
    have := hK _ (.same hT [])
    rw [List.append_nil] at this
    exact endsA this
  | none =>
    have hl8 : (topM X).length = T.l.length := by rw [List.length_map, hR.len]
    rw [hx] at hf
    cases c0 : decide ((T.l.length : Int) ≥ 8)
    rotate_left
    · have hF : createF T n = ((6, 0), T) := by rw [createF, hR.no hx, if_neg (by simp), if_pos (by simp at c0; omega)]
      rw [hF] at hK
      refine gq13 (gqc0 hb (gqc0 hm (gqc0 hf (gqc0 hl8 c0)))) ?_
      have := hK _ (.same hT [])
      rw [List.append_nil] at this
      exact endsA this
    have hF : createF T n = ((0, 0), { T with l := T.l.take (lessN n T.l) ++ ⟨n, 0, [], []⟩ :: T.l.drop (lessN n T.l) }) := by
      rw [createF, hR.no hx, if_neg (by simp), if_neg (by simp at c0; omega)]
    rw [hF] at hK
    have hb' : ∀ τ, (σ ++ τ)[id]? = _ := fun τ => get_left hb
    have hm' : ∀ τ, (σ ++ τ)[m]? = _ := fun τ => get_left hm
    have lm := lt_len hm
    have xs : ∀ Y τ, (σ ++ τ).set m Y = σ.set m Y ++ τ := fun Y τ => List.set_append_left _ _ lm
    refine gq13 (gqc0 hb (gqc0 hm (gqc0 hb' (gqc0 hm' (gqc0 xs (gqc0 hf (gqc0 hl8 c0))))))) ?_
    obtain ⟨M, hM⟩ : ∃ M, AObj.map (topM X ++ [(AV.d (D.str n), AV.box (σ.length + 1) 0)]) = M := ⟨_, rfl⟩
    rw [hM]
    have hW : Weak [] (σ.set m M ++ [.map [], .box [.d (.int .i64 0), .exact [], .map σ.length]]) [] (σ.set m M ++ [.map [], .box [.d (.int .i64 0), .own (σ.length + 2) [], .map σ.length], .tok 1 0]) := by
      refine .tokB (σ.length + 1) 1 [.d (.int .i64 0), .exact [], .map σ.length] [] 1 (by rw [List.getElem?_append_right (by simp)]; simp) rfl (by simp) ?_
      rw [List.set_append_right _ _ (by simp)]
      simp only [List.length_append, List.length_set, List.length_cons, List.length_nil, Nat.add_sub_cancel_left, List.set_cons_succ, List.set_cons_zero, List.append_assoc, List.cons_append, List.nil_append, Nat.zero_add, Nat.reduceAdd]
      exact .refl _ _
    have g0 : ∀ j τ, j < σ.length → j ≠ m → (σ.set m M ++ τ)[j]? = σ[j]? := fun j τ hj hne => by
      rw [List.getElem?_append_left (by simpa using hj), List.getElem?_set_ne (Ne.symm hne)]
    refine ⟨_, hW, hK _ ⟨OwnP id m (X ++ [⟨⟨n, 0, [], []⟩, σ.length + 1, σ.length, σ.length + 2⟩]), ⟨m, _, hP.add (p := ⟨⟨n, 0, [], []⟩, σ.length + 1, σ.length, σ.length + 2⟩) (by simp) (by simp) (by simp) (fun j hj hne => g0 j _ (hP.own_lt hj) hne) ?_ ⟨?_, ?_, ?_⟩, hR.add hx ⟨rfl, rfl, rfl, .nil⟩ rfl, fun j => Iff.rfl⟩, ⟨by simp, fun j hj hlt => g0 j _ hlt fun e => hj ((hO j).2 (.inr (.inl e)))⟩, fun j hj => ?_⟩⟩
    · rw [List.getElem?_append_left (by simpa using lm), List.getElem?_set_self lm, ← hM]; simp [topM]
    · rw [List.getElem?_append_right (by simp)]; simp; rfl
    · rw [List.getElem?_append_right (by simp)]; simp
    · rw [List.getElem?_append_right (by simp)]; simp
    · rcases ownP_add hj with hj | hj | hj | hj
      · exact .inl ((hO j).2 hj)
      · simp only at hj; omega
      · simp only at hj; omega
      · simp only at hj; omega
end

end Go.Proofs.Ytaocmalhjfakdaa
