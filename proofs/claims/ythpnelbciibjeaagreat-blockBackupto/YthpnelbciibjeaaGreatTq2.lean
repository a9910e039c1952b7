/- Contracts: the program's topics: made, found; bounds, records; a topic more. -/
import Derived.Test.YthpnelbciibjeaaGreatTq1
import Derived.Test.YthpnelbciibjeaaGreatAwAll
set_option linter.all false
set_option maxRecDepth 100000
set_option linter.unusedSimpArgs false
set_option linter.unusedVariables false
namespace Go.Proofs.YthpnelbciibjeaaGreat
open Go.AW

theorem c_tpNew {σ : List zc} {K : AV → List zc → Prop} (hK : zeC (σ ++ [.map [], .box (.map σ.length :: zcF zcI.last)]) (σ.length + 1) zcI (fun j => j = σ.length + 1 ∨ j = σ.length) → K (.box (σ.length + 1) 0) (σ ++ [.map [], .box (.map σ.length :: zcF zcI.last)])) : zt Tryz.prog zfM [] σ K := by
  refine zbe zkY.is rfl fun hl _ => zkY.goes ?_
  simp only [zlj, iN, bT, bF, eN]
  refine gq1 ?_
  refine zbA (hK ⟨σ.length, [], ⟨by rw [zy]; rfl, by rw [zq]; rfl, by simp, by simp, by simp, rfl⟩, .nil, fun j => ?_⟩)
  simp [OwnP]
section

variable {σ : List zc} {id m : Nat} {X : List zcH} {L : List (Int × Int × Int)} {K : AV → List zc → Prop}

theorem zhY {cs : List AV} (hb : σ[id]? = some (.box (.map m :: cs))) (hK : K (.d (.bool false)) σ) : zt Tryz.prog zaq [.box id 0] σ K := by
  refine ziI zin fun hl => ?_
  simp only [zeL, iN, bT, bF, eN]
  refine gq2 hb ?_
  refine zcg hl ?_
  exact hK
theorem zhZ {x : zX} {t g : Nat} (hb : σ[id]? = some (topB' x t g)) (h1 : -9223372036854775808 ≤ x.next ∧ x.next ≤ 9223372036854775807) (hK : K (.d (.int .i64 x.next)) σ) : zt Tryz.prog zaI [.box id 0] σ K := by
  refine ziI ziZ fun hl => ?_
  have hlen := zE x.recs
  have hw : IntKind.i64.wrap (x.base + (x.recs.length : Int)) = x.next := zbb h1.1 h1.2
  simp only [zfx, iN, bT, bF, eN]
  refine gq2 (zg hb (zg hlen hw)) ?_
  refine zcg hl ?_
  exact hK
theorem c_tpFind (h : zeA σ id m X L) {n : List UInt8} (hK : K (match zfr n X 0 with | some q => .tup [.box q.2.id 0, .d (.int .i64 0)] | none => .tup [.d .nilp, .d (.int .i64 4)]) σ) : zt Tryz.prog zbC [.box id 0, .d (.str n)] σ K := by
  refine zbe zeH.is rfl fun hl _ => zeH.goes ?_
  have hb := h.box
  have hm := h.map
  have hf := zdt n X 0
  simp only [zeM, iN, bT, bF, eN]
  refine gq1 ?_
  refine zhY hb ?_
  cases hx : zfr n X 0 with
  | none =>
    rw [hx] at hf hK
    refine gq3 (zg hb (zg hm hf)) ?_
    exact zbA hK
  | some q =>
    rw [hx] at hf hK
    refine gq3 (zg hb (zg hm hf)) ?_
    exact zbA hK
end


section
variable {σ : List zc} {id m : Nat} {X : List zcH} {T : zao} {O : Nat → Prop} {K : AV → List zc → Prop}
theorem next_ok {x : zX} (h : TopI x) : -9223372036854775808 ≤ x.next ∧ x.next ≤ 9223372036854775807 := by
  have := h.base; have := h.next; have : x.next = x.base + x.recs.length := rfl; omega
theorem next_eq {x y : zX} (h : TR x y) (hI : TopI y) : -9223372036854775808 ≤ x.next ∧ x.next ≤ 9223372036854775807 := by rw [h.next]; exact next_ok hI
theorem createF_some {n : List UInt8} {k : Nat} (h : atF n T.l 0 = some k) : zcn T n = ((5, 0), T) := by rw [zcn, h]; rfl
def After (σ : List zc) (id : Nat) (T' : zao) (O : Nat → Prop) (S : List zc) : Prop := ∃ O', zeC S id T' O' ∧ StO σ S O ∧ ∀ j, O' j → O j ∨ σ.length ≤ j
theorem After.same (h : zeC σ id T O) (τ : List zc) : After σ id T O (σ ++ τ) := ⟨O, h.app τ, .app _ _ _, fun j hj => .inl hj⟩
theorem c_tpCreate {n : List UInt8} (h : zeC σ id T O) (hI : zdT T)
    (hK : ∀ S, After σ id (zcn T n).2 O S → K (.d (.int .i64 (zcn T n).1.1)) S) : zt Tryz.prog zck [.box id 0, .d (.str n)] σ K := by
  have hT := h
  obtain ⟨m, X, hP, hR, hO⟩ := h
  refine zbe zdV.is rfl fun hl _ => zdV.goes ?_
  have hb := hP.box
  have hm := hP.map
  have hf := zdt n X 0
  simp only [zdY, iN, bT, bF, eN]
  cases hx : zfr n X 0 with
  | some q =>
    obtain ⟨i, p⟩ := q
    obtain ⟨h1, h2, k, y, h3, h4, h5⟩ := hR.yes hx
    rw [createF_some h3] at hK
    rw [hx] at hf
    refine gq3 (zg hb (zg hm hf)) ?_
    have := hK _ (.same hT [])
    rw [List.append_nil] at this
    exact zbA this
  | none =>
    have hl8 : (zoa X).length = T.l.length := by rw [List.length_map, hR.len]
    rw [hx] at hf
    cases c0 : decide ((T.l.length : Int) ≥ 8)
    rotate_left
    · have hF : zcn T n = ((6, 0), T) := by rw [zcn, hR.no hx, if_neg (by simp), if_pos (by simp at c0; omega)]
      rw [hF] at hK
      refine gq3 (zg hb (zg hm (zg hf (zg hl8 c0)))) ?_
      have := hK _ (.same hT [])
      rw [List.append_nil] at this
      exact zbA this
    have hF : zcn T n = ((0, 0), { T with l := T.l.take (zmZ n T.l) ++ ⟨n, 0, [], []⟩ :: T.l.drop (zmZ n T.l) }) := by
      rw [zcn, hR.no hx, if_neg (by simp), if_neg (by simp at c0; omega)]
    rw [hF] at hK
    have hb' : ∀ τ, (σ ++ τ)[id]? = _ := fun τ => zf hb
    have hm' : ∀ τ, (σ ++ τ)[m]? = _ := fun τ => zf hm
    have lm := zl hm
    have xs : ∀ Y τ, (σ ++ τ).set m Y = σ.set m Y ++ τ := fun Y τ => List.set_append_left _ _ lm
    refine gq3 (zg hb (zg hm (zg hb' (zg hm' (zg xs (zg hf (zg hl8 c0))))))) ?_
    obtain ⟨M, hM⟩ : ∃ M, zc.map (zoa X ++ [(AV.d (D.str n), AV.box (σ.length + 1) 0)]) = M := ⟨_, rfl⟩
    rw [hM]
    have hW : zli [] (σ.set m M ++ [.map [], .box [.d (.int .i64 0), .exact [], .map σ.length]]) [] (σ.set m M ++ [.map [], .box [.d (.int .i64 0), .own (σ.length + 2) [], .map σ.length], .tok 1 0]) := by
      refine .tokB (σ.length + 1) 1 [.d (.int .i64 0), .exact [], .map σ.length] [] 1 (by rw [List.getElem?_append_right (by simp)]; simp) rfl (by simp) ?_
      rw [List.set_append_right _ _ (by simp)]
      simp only [List.length_append, List.length_set, List.length_cons, List.length_nil, Nat.add_sub_cancel_left, List.set_cons_succ, List.set_cons_zero, List.append_assoc, List.cons_append, List.nil_append, Nat.zero_add, Nat.reduceAdd]
      exact .refl _ _
    have g0 : ∀ j τ, j < σ.length → j ≠ m → (σ.set m M ++ τ)[j]? = σ[j]? := fun j τ hj hne => by
      rw [List.getElem?_append_left (by simpa using hj), List.getElem?_set_ne (Ne.symm hne)]
    refine ⟨_, hW, hK _ ⟨OwnP id m (X ++ [⟨⟨n, 0, [], []⟩, σ.length + 1, σ.length, σ.length + 2⟩]), ⟨m, _, hP.add (p := ⟨⟨n, 0, [], []⟩, σ.length + 1, σ.length, σ.length + 2⟩) (by simp) (by simp) (by simp) (fun j hj hne => g0 j _ (hP.own_lt hj) hne) ?_ ⟨?_, ?_, ?_⟩, hR.add hx ⟨rfl, rfl, rfl, .nil⟩ rfl, fun j => Iff.rfl⟩, ⟨by simp, fun j hj hlt => g0 j _ hlt fun e => hj ((hO j).2 (.inr (.inl e)))⟩, fun j hj => ?_⟩⟩
    · rw [List.getElem?_append_left (by simpa using lm), List.getElem?_set_self lm, ← hM]; simp [zoa]
    · rw [List.getElem?_append_right (by simp)]; simp; rfl
    · rw [List.getElem?_append_right (by simp)]; simp
    · rw [List.getElem?_append_right (by simp)]; simp
    · rcases ownP_add hj with hj | hj | hj | hj
      · exact .inl ((hO j).2 hj)
      · simp only at hj; omega
      · simp only at hj; omega
      · simp only at hj; omega
end

end Go.Proofs.YthpnelbciibjeaaGreat
