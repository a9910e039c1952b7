/- Contracts: the program's topics: bounds, records; a topic more. -/
import Derived.Test.YtaocmalhjfakdaaTq2
set_option linter.all false
set_option maxRecDepth 100000
set_option linter.unusedSimpArgs false
set_option linter.unusedVariables false
namespace Go.Proofs.Ytaocmalhjfakdaa
open Go.AW

section
variable {σ : List zb} {id m : Nat} {X : List zcS} {T : zS} {O : Nat → Prop} {K : AV → List zb → Prop}
theorem next_ok {x : zQ} (h : TopI x) : -9223372036854775808 ≤ x.next ∧ x.next ≤ 9223372036854775807 := by
  have := h.base; have := h.next; have : x.next = x.base + x.recs.length := rfl; omega
theorem zjX {x y : zQ} (h : TR x y) (hI : TopI y) : -9223372036854775808 ≤ x.next ∧ x.next ≤ 9223372036854775807 := by rw [h.next]; exact next_ok hI
theorem c_tpGet {n : List UInt8} {o : Int} (h : zeC σ id T O) (hI : zee T) (hK : K (.tup [.d (.slice (bcs (getF T n o).1)), .d (.int .i64 (getF T n o).2)]) σ) : zC Try.prog zbR [.box id 0, .d (.str n), .d (.int .i64 o)] σ K := by
  obtain ⟨m, X, hP, hR, hO⟩ := h
  refine zaI zdD.is rfl fun hl _ => zdD.goes ?_
  simp only [zdJ, iN, bT, bF, eN]
  refine zen ?_
  refine zkn hP ?_
  cases hx : zdT n X 0 with
  | none =>
    have hB : getF T n o = ([], 4) := by rw [getF, hR.no hx]
    rw [hB] at hK
    refine zbf (show ((4 : Int) != 0) = true from rfl) ?_
    refine zaW ?_
    exact hK
  | some q =>
    obtain ⟨i, p⟩ := q
    obtain ⟨h1, h2, k, y, h3, h4, h5⟩ := hR.yes hx
    have hy := hI.tops y (List.mem_of_getElem? h4)
    have hb := (hP.tops p (List.mem_of_getElem? h1)).b
    rw [getF, h3] at hK
    simp only [h4] at hK
    rw [← h5.base, ← h5.next, ← h5.recs] at hK
    have hn := zjX h5 hy
    have hlen := zB p.x.recs
    have hnx : p.x.next = p.x.base + p.x.recs.length := rfl
    have hb0 : 0 ≤ p.x.base := by rw [h5.base]; exact hy.base
    cases c0 : decide (o < p.x.base)
    · cases c1 : decide (o ≥ p.x.next)
      · have e0 : ¬ o < p.x.base := by simpa using c0
        have e1 : ¬ p.x.next ≤ o := by simpa using c1
        rw [if_neg (by omega)] at hK
        have hw : IntKind.i64.wrap (o - p.x.base) = o - p.x.base := zcT (by omega) (by omega)
        obtain ⟨r, hr⟩ : ∃ r, p.x.recs[(o - p.x.base).toNat]? = some r := ⟨_, List.getElem?_eq_getElem (by omega)⟩
        rw [List.getD_eq_getElem?_getD, hr] at hK
        have hrl : r.length ≤ 64 := hy.each r (by rw [← h5.recs]; exact List.mem_of_getElem? hr)
        have hge : decide (o - p.x.base < (p.x.recs.length : Int)) = true := by simp; omega
        have hge0 : decide (0 ≤ o - p.x.base) = true := by simp; omega
        have hg := map_get (f := fun r => [D.slice (bcs r)]) hr
        refine zbf (zf hb c0) ?_
        refine zdR hb hn ?_
        have hgr : (zbu p.x.recs)[(o - p.x.base).toNat]? = some [.slice (bcs r)] := hg
        refine zbf (zf hb (zf c0 (zf c1 (zf hw (zf hlen hgr))))) ?_
        refine zkq (by omega) ?_
        refine zen ?_
        exact zaW hK
      · have e1 : p.x.next ≤ o := by simpa using c1
        rw [if_pos (.inr e1)] at hK
        refine zbf (zf hb c0) ?_
        refine zdR hb hn ?_
        refine zbf (zf hb (zf c0 c1)) ?_
        exact zaW hK
    · have e0 : o < p.x.base := by simpa using c0
      rw [if_pos (.inl e0)] at hK
      refine zbf (zf hb c0) ?_
      exact zaW hK
theorem createF_some {n : List UInt8} {k : Nat} (h : atF n T.l 0 = some k) : zbz T n = ((5, 0), T) := by rw [zbz, h]; rfl
def After (σ : List zb) (id : Nat) (T' : zS) (O : Nat → Prop) (S : List zb) : Prop := ∃ O', zeC S id T' O' ∧ StO σ S O ∧ ∀ j, O' j → O j ∨ σ.length ≤ j
theorem After.same (h : zeC σ id T O) (τ : List zb) : After σ id T O (σ ++ τ) := ⟨O, h.app τ, .app _ _ _, fun j hj => .inl hj⟩
theorem c_tpCreate {n : List UInt8} (h : zeC σ id T O) (hI : zee T)
    (hK : ∀ S, After σ id (zbz T n).2 O S → K (.d (.int .i64 (zbz T n).1.1)) S) : zC Try.prog zbw [.box id 0, .d (.str n)] σ K := by
  have hT := h
  obtain ⟨m, X, hP, hR, hO⟩ := h
  refine zaI zcm.is rfl fun hl _ => zcm.goes ?_
  have hb := hP.box
  have hm := hP.map
  have hf := zcv n X 0
  simp only [zcp, iN, bT, bF, eN]
  cases hx : zdT n X 0 with
  | some q =>
    obtain ⟨i, p⟩ := q
    obtain ⟨h1, h2, k, y, h3, h4, h5⟩ := hR.yes hx
    rw [createF_some h3] at hK
    rw [hx] at hf
    refine zhz (zf hb (zf hm hf)) ?_
    have := hK _ (.same hT [])
    rw [List.append_nil] at this
    exact zaW this
  | none =>
    have hl8 : (topM X).length = T.l.length := by rw [List.length_map, hR.len]
    rw [hx] at hf
    cases c0 : decide ((T.l.length : Int) ≥ 8)
    rotate_left
    · have hF : zbz T n = ((6, 0), T) := by rw [zbz, hR.no hx, if_neg (by simp), if_pos (by simp at c0; omega)]
      rw [hF] at hK
      refine zhz (zf hb (zf hm (zf hf (zf hl8 c0)))) ?_
      have := hK _ (.same hT [])
      rw [List.append_nil] at this
      exact zaW this
    have hF : zbz T n = ((0, 0), { T with l := T.l.take (ziY n T.l) ++ ⟨n, 0, [], []⟩ :: T.l.drop (ziY n T.l) }) := by
      rw [zbz, hR.no hx, if_neg (by simp), if_neg (by simp at c0; omega)]
    rw [hF] at hK
    have hb' : ∀ τ, (σ ++ τ)[id]? = _ := fun τ => ze hb
    have hm' : ∀ τ, (σ ++ τ)[m]? = _ := fun τ => ze hm
    have lm := zo hm
    have xs : ∀ Y τ, (σ ++ τ).set m Y = σ.set m Y ++ τ := fun Y τ => List.set_append_left _ _ lm
    refine zhz (zf hb (zf hm (zf hb' (zf hm' (zf xs (zf hf (zf hl8 c0))))))) ?_
    obtain ⟨M, hM⟩ : ∃ M, zb.map (topM X ++ [(AV.d (D.str n), AV.box (σ.length + 1) 0)]) = M := ⟨_, rfl⟩
    rw [hM]
    have hW : ziS [] (σ.set m M ++ [.map [], .box [.d (.int .i64 0), .exact [], .map σ.length]]) [] (σ.set m M ++ [.map [], .box [.d (.int .i64 0), .own (σ.length + 2) [], .map σ.length], .tok 1 0]) := by
      refine .tokB (σ.length + 1) 1 [.d (.int .i64 0), .exact [], .map σ.length] [] 1 (by rw [List.getElem?_append_right (by simp)]; simp) rfl (by simp) ?_
      rw [List.set_append_right _ _ (by simp)]
      simp only [List.length_append, List.length_set, List.length_cons, List.length_nil, Nat.add_sub_cancel_left, List.set_cons_succ, List.set_cons_zero, List.append_assoc, List.cons_append, List.nil_append, Nat.zero_add, Nat.reduceAdd]
      exact .refl _ _
    have g0 : ∀ j τ, j < σ.length → j ≠ m → (σ.set m M ++ τ)[j]? = σ[j]? := fun j τ hj hne => by
      rw [List.getElem?_append_left (by simpa using hj), List.getElem?_set_ne (Ne.symm hne)]
    refine ⟨_, hW, hK _ ⟨OwnP id m (X ++ [⟨⟨n, 0, [], []⟩, σ.length + 1, σ.length, σ.length + 2⟩]), ⟨m, _, hP.add (p := ⟨⟨n, 0, [], []⟩, σ.length + 1, σ.length, σ.length + 2⟩) (by simp) (by simp) (by simp) (fun j hj hne => g0 j _ (hP.own_lt hj) hne) ?_ ⟨?_, ?_, ?_⟩, hR.add hx ⟨rfl, rfl, rfl, .nil⟩ rfl, fun j => Iff.rfl⟩, ⟨by simp, fun j hj hlt => g0 j _ hlt fun e => hj ((hO j).2 (.inr (.inl e)))⟩, fun j hj => ?_⟩⟩
    · rw [List.getElem?_append_left (by simpa using lm), List.getElem?_set_self lm, ← hM]; simp [topM]
    · rw [List.getElem?_append_right (by simp)]; simp; rfl
    · rw [List.getElem?_append_right (by simp)]; simp
    · rw [List.getElem?_append_right (by simp)]; simp
    · rcases ownP_add hj with hj | hj | hj | hj
      · exact .inl ((hO j).2 hj)
      · simp only at hj; omega
      · simp only at hj; omega
      · simp only at hj; omega
end

end Go.Proofs.Ytaocmalhjfakdaa
