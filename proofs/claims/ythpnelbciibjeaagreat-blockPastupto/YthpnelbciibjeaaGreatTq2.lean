/- Contracts: the program's topics: made, found; bounds, records; a topic more. -/
import Derived.Test.YthpnelbciibjeaaGreatTq1
import Derived.Test.YthpnelbciibjeaaGreatSpMap
set_option linter.all false
set_option maxRecDepth 100000
set_option linter.unusedSimpArgs false
set_option linter.unusedVariables false
namespace Go.Proofs.YthpnelbciibjeaaGreat
open Go.AW

theorem c_tpNew {σ : List zc} {K : AV → List zc → Prop} (hK : zeA (σ ++ [.map [], .box (.map σ.length :: zcZ zbb.last)]) (σ.length + 1) zbb (fun j => j = σ.length + 1 ∨ j = σ.length) → K (.box (σ.length + 1) 0) (σ ++ [.map [], .box (.map σ.length :: zcZ zbb.last)])) : zt Tryz.prog zeH [] σ K := by
  refine zbd zlH.is rfl fun hl _ => zlH.goes ?_
  simp only [zlP, iN, bT, bF, eN]
  refine gq1 ?_
  refine zbN (hK ⟨σ.length, [], ⟨by rw [zP]; rfl, by rw [zp]; rfl, by simp, by simp, by simp, rfl⟩, .nil, fun j => ?_⟩)
  simp [OwnP]
section

variable {σ : List zc} {id m : Nat} {X : List zdj} {L : List (Int × Int × Int)} {K : AV → List zc → Prop}

theorem ziP {cs : List AV} (hb : σ[id]? = some (.box (.map m :: cs))) (hK : K (.d (.bool false)) σ) : zt Tryz.prog zaz [.box id 0] σ K := by
  refine zhl ziV fun hl => ?_
  simp only [zfh, iN, bT, bF, eN]
  refine gq2 hb ?_
  refine zbj hl ?_
  exact hK
theorem ziQ {x : zai} {t g : Nat} (hb : σ[id]? = some (topB' x t g)) (h1 : -9223372036854775808 ≤ x.next ∧ x.next ≤ 9223372036854775807) (hK : K (.d (.int .i64 x.next)) σ) : zt Tryz.prog zaP [.box id 0] σ K := by
  refine zhl zjC fun hl => ?_
  have hlen := zE x.recs
  have hw : IntKind.i64.wrap (x.base + (x.recs.length : Int)) = x.next := zaD h1.1 h1.2
  simp only [zfO, iN, bT, bF, eN]
  refine gq2 (zi hb (zi hlen hw)) ?_
  refine zbj hl ?_
  exact hK
theorem c_tpFind (h : zeV σ id m X L) {n : List UInt8} (hK : K (match zfJ n X 0 with | some q => .tup [.box q.2.id 0, .d (.int .i64 0)] | none => .tup [.d .nilp, .d (.int .i64 4)]) σ) : zt Tryz.prog zbQ [.box id 0, .d (.str n)] σ K := by
  refine zbd zfe.is rfl fun hl _ => zfe.goes ?_
  have hb := h.box
  have hm := h.map
  have hf := zdC n X 0
  simp only [zfi, iN, bT, bF, eN]
  refine gq1 ?_
  refine ziP hb ?_
  cases hx : zfJ n X 0 with
  | none =>
    rw [hx] at hf hK
    refine gq3 (zi hb (zi hm hf)) ?_
    exact zbN hK
  | some q =>
    rw [hx] at hf hK
    refine gq3 (zi hb (zi hm hf)) ?_
    exact zbN hK
end


section
variable {σ : List zc} {id m : Nat} {X : List zdj} {T : zad} {O : Nat → Prop} {K : AV → List zc → Prop}
theorem next_ok {x : zai} (h : TopI x) : -9223372036854775808 ≤ x.next ∧ x.next ≤ 9223372036854775807 := by
  have := h.base; have := h.next; have : x.next = x.base + x.recs.length := rfl; omega
theorem next_eq {x y : zai} (h : TR x y) (hI : TopI y) : -9223372036854775808 ≤ x.next ∧ x.next ≤ 9223372036854775807 := by rw [h.next]; exact next_ok hI
theorem createF_some {n : List UInt8} {k : Nat} (h : atF n T.l 0 = some k) : zcC T n = ((5, 0), T) := by rw [zcC, h]; rfl
def After (σ : List zc) (id : Nat) (T' : zad) (O : Nat → Prop) (S : List zc) : Prop := ∃ O', zeA S id T' O' ∧ StO σ S O ∧ ∀ j, O' j → O j ∨ σ.length ≤ j
theorem After.same (h : zeA σ id T O) (τ : List zc) : After σ id T O (σ ++ τ) := ⟨O, h.app τ, .app _ _ _, fun j hj => .inl hj⟩
theorem c_tpCreate {n : List UInt8} (h : zeA σ id T O) (hI : zcD T)
    (hK : ∀ S, After σ id (zcC T n).2 O S → K (.d (.int .i64 (zcC T n).1.1)) S) : zt Tryz.prog zcz [.box id 0, .d (.str n)] σ K := by
  have hT := h
  obtain ⟨m, X, hP, hR, hO⟩ := h
  refine zbd zeg.is rfl fun hl _ => zeg.goes ?_
  have hb := hP.box
  have hm := hP.map
  have hf := zdC n X 0
  simp only [zej, iN, bT, bF, eN]
  cases hx : zfJ n X 0 with
  | some q =>
    obtain ⟨i, p⟩ := q
    obtain ⟨h1, h2, k, y, h3, h4, h5⟩ := hR.yes hx
    rw [createF_some h3] at hK
    rw [hx] at hf
    refine gq3 (zi hb (zi hm hf)) ?_
    have := hK _ (.same hT [])
    rw [List.append_nil] at this
    exact zbN this
  | none =>
    have hl8 : (zoY X).length = T.l.length := by rw [List.length_map, hR.len]
    rw [hx] at hf
    cases c0 : decide ((T.l.length : Int) ≥ 8)
    rotate_left
    · have hF : zcC T n = ((6, 0), T) := by rw [zcC, hR.no hx, if_neg (by simp), if_pos (by simp at c0; omega)]
      rw [hF] at hK
      refine gq3 (zi hb (zi hm (zi hf (zi hl8 c0)))) ?_
      have := hK _ (.same hT [])
      rw [List.append_nil] at this
      exact zbN this
    have hF : zcC T n = ((0, 0), { T with l := T.l.take (znS n T.l) ++ ⟨n, 0, [], []⟩ :: T.l.drop (znS n T.l) }) := by
      rw [zcC, hR.no hx, if_neg (by simp), if_neg (by simp at c0; omega)]
    rw [hF] at hK
    have hb' : ∀ τ, (σ ++ τ)[id]? = _ := fun τ => zg hb
    have hm' : ∀ τ, (σ ++ τ)[m]? = _ := fun τ => zg hm
    have lm := zn hm
    have xs : ∀ Y τ, (σ ++ τ).set m Y = σ.set m Y ++ τ := fun Y τ => List.set_append_left _ _ lm
    refine gq3 (zi hb (zi hm (zi hb' (zi hm' (zi xs (zi hf (zi hl8 c0))))))) ?_
    obtain ⟨M, hM⟩ : ∃ M, zc.map (zoY X ++ [(AV.d (D.str n), AV.box (σ.length + 1) 0)]) = M := ⟨_, rfl⟩
    rw [hM]
    have hW : zlv [] (σ.set m M ++ [.map [], .box [.d (.int .i64 0), .exact [], .map σ.length]]) [] (σ.set m M ++ [.map [], .box [.d (.int .i64 0), .own (σ.length + 2) [], .map σ.length], .tok 1 0]) := by
      refine .tokB (σ.length + 1) 1 [.d (.int .i64 0), .exact [], .map σ.length] [] 1 (by rw [List.getElem?_append_right (by simp)]; simp) rfl (by simp) ?_
      rw [List.set_append_right _ _ (by simp)]
      simp only [List.length_append, List.length_set, List.length_cons, List.length_nil, Nat.add_sub_cancel_left, List.set_cons_succ, List.set_cons_zero, List.append_assoc, List.cons_append, List.nil_append, Nat.zero_add, Nat.reduceAdd]
      exact .refl _ _
    have g0 : ∀ j τ, j < σ.length → j ≠ m → (σ.set m M ++ τ)[j]? = σ[j]? := fun j τ hj hne => by
      rw [List.getElem?_append_left (by simpa using hj), List.getElem?_set_ne (Ne.symm hne)]
    refine ⟨_, hW, hK _ ⟨OwnP id m (X ++ [⟨⟨n, 0, [], []⟩, σ.length + 1, σ.length, σ.length + 2⟩]), ⟨m, _, hP.add (p := ⟨⟨n, 0, [], []⟩, σ.length + 1, σ.length, σ.length + 2⟩) (by simp) (by simp) (by simp) (fun j hj hne => g0 j _ (hP.own_lt hj) hne) ?_ ⟨?_, ?_, ?_⟩, hR.add hx ⟨rfl, rfl, rfl, .nil⟩ rfl, fun j => Iff.rfl⟩, ⟨by simp, fun j hj hlt => g0 j _ hlt fun e => hj ((hO j).2 (.inr (.inl e)))⟩, fun j hj => ?_⟩⟩
    · rw [List.getElem?_append_left (by simpa using lm), List.getElem?_set_self lm, ← hM]; simp [zoY]
    · rw [List.getElem?_append_right (by simp)]; simp; rfl
    · rw [List.getElem?_append_right (by simp)]; simp
    · rw [List.getElem?_append_right (by simp)]; simp
    · rcases ownP_add hj with hj | hj | hj | hj
      · exact .inl ((hO j).2 hj)
      · simp only at hj; omega
      · simp only at hj; omega
      · simp only at hj; omega
end

end Go.Proofs.YthpnelbciibjeaaGreat
