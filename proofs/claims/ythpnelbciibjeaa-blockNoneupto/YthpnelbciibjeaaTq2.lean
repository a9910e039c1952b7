/- Contracts: the program's topics: made, found; bounds, records; a topic more. -/
import Derived.Test.YthpnelbciibjeaaTq1
import Derived.Test.YthpnelbciibjeaaAwAll
set_option linter.all false
set_option maxRecDepth 100000
set_option linter.unusedSimpArgs false
set_option linter.unusedVariables false
namespace Go.Proofs.Ythpnelbciibjeaa
open Go.AW

theorem zoe {σ : List zc} {K : AV → List zc → Prop} (hK : zeB (σ ++ [.map [], .box (.map σ.length :: zcE zcI.last)]) (σ.length + 1) zcI (fun j => j = σ.length + 1 ∨ j = σ.length) → K (.box (σ.length + 1) 0) (σ ++ [.map [], .box (.map σ.length :: zcE zcI.last)])) : zj Try.prog zdq [] σ K := by
  refine zba zkz.is rfl fun hl _ => zkz.goes ?_
  simp only [zkI, iN, bT, bF, eN]
  refine gq1 ?_
  refine zbE (hK ⟨σ.length, [], ⟨by rw [zI]; rfl, by rw [zr]; rfl, by simp, by simp, by simp, rfl⟩, .nil, fun j => ?_⟩)
  simp [OwnP]
section

variable {σ : List zc} {id m : Nat} {X : List zcH} {L : List (Int × Int × Int)} {K : AV → List zc → Prop}

theorem zhO {cs : List AV} (hb : σ[id]? = some (.box (.map m :: cs))) (hK : K (.d (.bool false)) σ) : zj Try.prog zY [.box id 0] σ K := by
  refine zhr zeG fun hl => ?_
  simp only [zcP, iN, bT, bF, eN]
  refine gq2 hb ?_
  refine zbD hl ?_
  exact hK
theorem zhP {x : zX} {t g : Nat} (hb : σ[id]? = some (topB' x t g)) (h1 : -9223372036854775808 ≤ x.next ∧ x.next ≤ 9223372036854775807) (hK : K (.d (.int .i64 x.next)) σ) : zj Try.prog zaK [.box id 0] σ K := by
  refine zhr ziL fun hl => ?_
  have hlen := zD x.recs
  have hw : IntKind.i64.wrap (x.base + (x.recs.length : Int)) = x.next := zbJ h1.1 h1.2
  simp only [zfr, iN, bT, bF, eN]
  refine gq2 (zg hb (zg hlen hw)) ?_
  refine zbD hl ?_
  exact hK
theorem c_tpFind (h : zez σ id m X L) {n : List UInt8} (hK : K (match zfl n X 0 with | some q => .tup [.box q.2.id 0, .d (.int .i64 0)] | none => .tup [.d .nilp, .d (.int .i64 4)]) σ) : zj Try.prog zbG [.box id 0, .d (.str n)] σ K := by
  refine zba zeH.is rfl fun hl _ => zeH.goes ?_
  have hb := h.box
  have hm := h.map
  have hf := zdr n X 0
  simp only [zeK, iN, bT, bF, eN]
  refine gq1 ?_
  refine zhO hb ?_
  cases hx : zfl n X 0 with
  | none =>
    rw [hx] at hf hK
    refine gq3 (zg hb (zg hm hf)) ?_
    exact zbE hK
  | some q =>
    rw [hx] at hf hK
    refine gq3 (zg hb (zg hm hf)) ?_
    exact zbE hK
end


section
variable {σ : List zc} {id m : Nat} {X : List zcH} {T : zaq} {O : Nat → Prop} {K : AV → List zc → Prop}
theorem next_ok {x : zX} (h : TopI x) : -9223372036854775808 ≤ x.next ∧ x.next ≤ 9223372036854775807 := by
  have := h.base; have := h.next; have : x.next = x.base + x.recs.length := rfl; omega
theorem next_eq {x y : zX} (h : TR x y) (hI : TopI y) : -9223372036854775808 ≤ x.next ∧ x.next ≤ 9223372036854775807 := by rw [h.next]; exact next_ok hI
theorem createF_some {n : List UInt8} {k : Nat} (h : atF n T.l 0 = some k) : zcl T n = ((5, 0), T) := by rw [zcl, h]; rfl
def After (σ : List zc) (id : Nat) (T' : zaq) (O : Nat → Prop) (S : List zc) : Prop := ∃ O', zeB S id T' O' ∧ StO σ S O ∧ ∀ j, O' j → O j ∨ σ.length ≤ j
theorem After.same (h : zeB σ id T O) (τ : List zc) : After σ id T O (σ ++ τ) := ⟨O, h.app τ, .app _ _ _, fun j hj => .inl hj⟩
theorem c_tpCreate {n : List UInt8} (h : zeB σ id T O) (hI : zdQ T)
    (hK : ∀ S, After σ id (zcl T n).2 O S → K (.d (.int .i64 (zcl T n).1.1)) S) : zj Try.prog zch [.box id 0, .d (.str n)] σ K := by
  have hT := h
  obtain ⟨m, X, hP, hR, hO⟩ := h
  refine zba zdT.is rfl fun hl _ => zdT.goes ?_
  have hb := hP.box
  have hm := hP.map
  have hf := zdr n X 0
  simp only [zdW, iN, bT, bF, eN]
  cases hx : zfl n X 0 with
  | some q =>
    obtain ⟨i, p⟩ := q
    obtain ⟨h1, h2, k, y, h3, h4, h5⟩ := hR.yes hx
    rw [createF_some h3] at hK
    rw [hx] at hf
    refine gq3 (zg hb (zg hm hf)) ?_
    have := hK _ (.same hT [])
    rw [List.append_nil] at this
    exact zbE this
  | none =>
    have hl8 : (znq X).length = T.l.length := by rw [List.length_map, hR.len]
    rw [hx] at hf
    cases c0 : decide ((T.l.length : Int) ≥ 8)
    rotate_left
    · have hF : zcl T n = ((6, 0), T) := by rw [zcl, hR.no hx, if_neg (by simp), if_pos (by simp at c0; omega)]
      rw [hF] at hK
      refine gq3 (zg hb (zg hm (zg hf (zg hl8 c0)))) ?_
      have := hK _ (.same hT [])
      rw [List.append_nil] at this
      exact zbE this
    have hF : zcl T n = ((0, 0), { T with l := T.l.take (zmu n T.l) ++ ⟨n, 0, [], []⟩ :: T.l.drop (zmu n T.l) }) := by
      rw [zcl, hR.no hx, if_neg (by simp), if_neg (by simp at c0; omega)]
    rw [hF] at hK
    have hb' : ∀ τ, (σ ++ τ)[id]? = _ := fun τ => zf hb
    have hm' : ∀ τ, (σ ++ τ)[m]? = _ := fun τ => zf hm
    have lm := zl hm
    have xs : ∀ Y τ, (σ ++ τ).set m Y = σ.set m Y ++ τ := fun Y τ => List.set_append_left _ _ lm
    refine gq3 (zg hb (zg hm (zg hb' (zg hm' (zg xs (zg hf (zg hl8 c0))))))) ?_
    obtain ⟨M, hM⟩ : ∃ M, zc.map (znq X ++ [(AV.d (D.str n), AV.box (σ.length + 1) 0)]) = M := ⟨_, rfl⟩
    rw [hM]
    have hW : zkH [] (σ.set m M ++ [.map [], .box [.d (.int .i64 0), .exact [], .map σ.length]]) [] (σ.set m M ++ [.map [], .box [.d (.int .i64 0), .own (σ.length + 2) [], .map σ.length], .tok 1 0]) := by
      refine .tokB (σ.length + 1) 1 [.d (.int .i64 0), .exact [], .map σ.length] [] 1 (by rw [List.getElem?_append_right (by simp)]; simp) rfl (by simp) ?_
      rw [List.set_append_right _ _ (by simp)]
      simp only [List.length_append, List.length_set, List.length_cons, List.length_nil, Nat.add_sub_cancel_left, List.set_cons_succ, List.set_cons_zero, List.append_assoc, List.cons_append, List.nil_append, Nat.zero_add, Nat.reduceAdd]
      exact .refl _ _
    have g0 : ∀ j τ, j < σ.length → j ≠ m → (σ.set m M ++ τ)[j]? = σ[j]? := fun j τ hj hne => by
      rw [List.getElem?_append_left (by simpa using hj), List.getElem?_set_ne (Ne.symm hne)]
    refine ⟨_, hW, hK _ ⟨OwnP id m (X ++ [⟨⟨n, 0, [], []⟩, σ.length + 1, σ.length, σ.length + 2⟩]), ⟨m, _, hP.add (p := ⟨⟨n, 0, [], []⟩, σ.length + 1, σ.length, σ.length + 2⟩) (by simp) (by simp) (by simp) (fun j hj hne => g0 j _ (hP.own_lt hj) hne) ?_ ⟨?_, ?_, ?_⟩, hR.add hx ⟨rfl, rfl, rfl, .nil⟩ rfl, fun j => Iff.rfl⟩, ⟨by simp, fun j hj hlt => g0 j _ hlt fun e => hj ((hO j).2 (.inr (.inl e)))⟩, fun j hj => ?_⟩⟩
    · rw [List.getElem?_append_left (by simpa using lm), List.getElem?_set_self lm, ← hM]; simp [znq]
    · rw [List.getElem?_append_right (by simp)]; simp; rfl
    · rw [List.getElem?_append_right (by simp)]; simp
    · rw [List.getElem?_append_right (by simp)]; simp
    · rcases ownP_add hj with hj | hj | hj | hj
      · exact .inl ((hO j).2 hj)
      · simp only at hj; omega
      · simp only at hj; omega
      · simp only at hj; omega
end

end Go.Proofs.Ythpnelbciibjeaa
