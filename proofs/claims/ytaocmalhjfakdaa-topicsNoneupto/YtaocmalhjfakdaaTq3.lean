/- Contracts: the program's topics: bounds, records; a topic more. -/
import Derived.Test.YtaocmalhjfakdaaTq2
set_option linter.all false
set_option maxRecDepth 100000
set_option linter.unusedSimpArgs false
set_option linter.unusedVariables false
namespace Go.Proofs.Ytaocmalhjfakdaa
open Go.AW

section
variable {σ : List zb} {id m : Nat} {X : List zdV} {T : zav} {O : Nat → Prop} {K : AV → List zb → Prop}
theorem next_ok {x : zV} (h : TopI x) : -9223372036854775808 ≤ x.next ∧ x.next ≤ 9223372036854775807 := by
  have := h.base; have := h.next; have : x.next = x.base + x.recs.length := rfl; omega
theorem zkp {x y : zV} (h : TR x y) (hI : TopI y) : -9223372036854775808 ≤ x.next ∧ x.next ≤ 9223372036854775807 := by rw [h.next]; exact next_ok hI
theorem c_tpGet {n : List UInt8} {o : Int} (h : zey σ id T O) (hI : zeH T) (hK : K (.tup [.d (.slice (bcs (getF T n o).1)), .d (.int .i64 (getF T n o).2)]) σ) : zi Try.prog zN [.box id 0, .d (.str n), .d (.int .i64 o)] σ K := by
  obtain ⟨m, X, hP, hR, hO⟩ := h
  refine zaC zbX.is rfl fun hl _ => zbX.goes ?_
  simp only [zbY, iN, bT, bF, eN]
  refine gq1 ?_
  refine c_tpFind hP ?_
  cases hx : zeo n X 0 with
  | none =>
    have hB : getF T n o = ([], 4) := by rw [getF, hR.no hx]
    rw [hB] at hK
    refine zaZ (show ((4 : Int) != 0) = true from rfl) ?_
    refine zaR ?_
    exact hK
  | some q =>
    obtain ⟨i, p⟩ := q
    obtain ⟨h1, h2, k, y, h3, h4, h5⟩ := hR.yes hx
    have hy := hI.tops y (List.mem_of_getElem? h4)
    have hb := (hP.tops p (List.mem_of_getElem? h1)).b
    rw [getF, h3] at hK
    simp only [h4] at hK
    rw [← h5.base, ← h5.next, ← h5.recs] at hK
    have hn := zkp h5 hy
    have hlen := zI p.x.recs
    have hnx : p.x.next = p.x.base + p.x.recs.length := rfl
    have hb0 : 0 ≤ p.x.base := by rw [h5.base]; exact hy.base
    cases c0 : decide (o < p.x.base)
    · cases c1 : decide (o ≥ p.x.next)
      · have e0 : ¬ o < p.x.base := by simpa using c0
        have e1 : ¬ p.x.next ≤ o := by simpa using c1
        rw [if_neg (by omega)] at hK
        have hw : IntKind.i64.wrap (o - p.x.base) = o - p.x.base := zcA (by omega) (by omega)
        obtain ⟨r, hr⟩ : ∃ r, p.x.recs[(o - p.x.base).toNat]? = some r := ⟨_, List.getElem?_eq_getElem (by omega)⟩
        rw [List.getD_eq_getElem?_getD, hr] at hK
        have hrl : r.length ≤ 64 := hy.each r (by rw [← h5.recs]; exact List.mem_of_getElem? hr)
        have hge : decide (o - p.x.base < (p.x.recs.length : Int)) = true := by simp; omega
        have hge0 : decide (0 ≤ o - p.x.base) = true := by simp; omega
        have hg := map_get (f := fun r => [D.slice (bcs r)]) hr
        refine zaZ (zk hb c0) ?_
        refine zbU hb hn ?_
        have hgr : (zbx p.x.recs)[(o - p.x.base).toNat]? = some [.slice (bcs r)] := hg
        refine zaZ (zk hb (zk c0 (zk c1 (zk hw (zk hlen hgr))))) ?_
        refine c_clRec (by omega) ?_
        refine gq1 ?_
        exact zaR hK
      · have e1 : p.x.next ≤ o := by simpa using c1
        rw [if_pos (.inr e1)] at hK
        refine zaZ (zk hb c0) ?_
        refine zbU hb hn ?_
        refine zaZ (zk hb (zk c0 c1)) ?_
        exact zaR hK
    · have e0 : o < p.x.base := by simpa using c0
      rw [if_pos (.inl e0)] at hK
      refine zaZ (zk hb c0) ?_
      exact zaR hK
theorem createF_some {n : List UInt8} {k : Nat} (h : atF n T.l 0 = some k) : zbF T n = ((5, 0), T) := by rw [zbF, h]; rfl
def After (σ : List zb) (id : Nat) (T' : zav) (O : Nat → Prop) (S : List zb) : Prop := ∃ O', zey S id T' O' ∧ StO σ S O ∧ ∀ j, O' j → O j ∨ σ.length ≤ j
theorem After.same (h : zey σ id T O) (τ : List zb) : After σ id T O (σ ++ τ) := ⟨O, h.app τ, .app _ _ _, fun j hj => .inl hj⟩
theorem c_tpCreate {n : List UInt8} (h : zey σ id T O) (hI : zeH T)
    (hK : ∀ S, After σ id (zbF T n).2 O S → K (.d (.int .i64 (zbF T n).1.1)) S) : zi Try.prog zaO [.box id 0, .d (.str n)] σ K := by
  have hT := h
  obtain ⟨m, X, hP, hR, hO⟩ := h
  refine zaC zcr.is rfl fun hl _ => zcr.goes ?_
  have hb := hP.box
  have hm := hP.map
  have hf := zcF n X 0
  simp only [zcv, iN, bT, bF, eN]
  cases hx : zeo n X 0 with
  | some q =>
    obtain ⟨i, p⟩ := q
    obtain ⟨h1, h2, k, y, h3, h4, h5⟩ := hR.yes hx
    rw [createF_some h3] at hK
    rw [hx] at hf
    refine zkt (zk hb (zk hm hf)) ?_
    have := hK _ (.same hT [])
    rw [List.append_nil] at this
    exact zaR this
  | none =>
    have hl8 : (topM X).length = T.l.length := by rw [List.length_map, hR.len]
    rw [hx] at hf
    cases c0 : decide ((T.l.length : Int) ≥ 8)
    rotate_left
    · have hF : zbF T n = ((6, 0), T) := by rw [zbF, hR.no hx, if_neg (by simp), if_pos (by simp at c0; omega)]
      rw [hF] at hK
      refine zkt (zk hb (zk hm (zk hf (zk hl8 c0)))) ?_
      have := hK _ (.same hT [])
      rw [List.append_nil] at this
      exact zaR this
    have hF : zbF T n = ((0, 0), { T with l := T.l.take (zjm n T.l) ++ ⟨n, 0, [], []⟩ :: T.l.drop (zjm n T.l) }) := by
      rw [zbF, hR.no hx, if_neg (by simp), if_neg (by simp at c0; omega)]
    rw [hF] at hK
    have hb' : ∀ τ, (σ ++ τ)[id]? = _ := fun τ => zf hb
    have hm' : ∀ τ, (σ ++ τ)[m]? = _ := fun τ => zf hm
    have lm := zF hm
    have xs : ∀ Y τ, (σ ++ τ).set m Y = σ.set m Y ++ τ := fun Y τ => List.set_append_left _ _ lm
    refine zkt (zk hb (zk hm (zk hb' (zk hm' (zk xs (zk hf (zk hl8 c0))))))) ?_
    obtain ⟨M, hM⟩ : ∃ M, zb.map (topM X ++ [(AV.d (D.str n), AV.box (σ.length + 1) 0)]) = M := ⟨_, rfl⟩
    rw [hM]
    have hW : zie [] (σ.set m M ++ [.map [], .box [.d (.int .i64 0), .exact [], .map σ.length]]) [] (σ.set m M ++ [.map [], .box [.d (.int .i64 0), .own (σ.length + 2) [], .map σ.length], .tok 1 0]) := by
      refine .tokB (σ.length + 1) 1 [.d (.int .i64 0), .exact [], .map σ.length] [] 1 (by rw [List.getElem?_append_right (by simp)]; simp) rfl (by simp) ?_
      rw [List.set_append_right _ _ (by simp)]
      simp only [List.length_append, List.length_set, List.length_cons, List.length_nil, Nat.add_sub_cancel_left, List.set_cons_succ, List.set_cons_zero, List.append_assoc, List.cons_append, List.nil_append, Nat.zero_add, Nat.reduceAdd]
      exact .refl _ _
    have g0 : ∀ j τ, j < σ.length → j ≠ m → (σ.set m M ++ τ)[j]? = σ[j]? := fun j τ hj hne => by
      rw [List.getElem?_append_left (by simpa using hj), List.getElem?_set_ne (Ne.symm hne)]
    refine ⟨_, hW, hK _ ⟨OwnP id m (X ++ [⟨⟨n, 0, [], []⟩, σ.length + 1, σ.length, σ.length + 2⟩]), ⟨m, _, hP.add (p := ⟨⟨n, 0, [], []⟩, σ.length + 1, σ.length, σ.length + 2⟩) (by simp) (by simp) (by simp) (fun j hj hne => g0 j _ (hP.own_lt hj) hne) ?_ ⟨?_, ?_, ?_⟩, hR.add hx ⟨rfl, rfl, rfl, .nil⟩ rfl, fun j => Iff.rfl⟩, ⟨by simp, fun j hj hlt => g0 j _ hlt fun e => hj ((hO j).2 (.inr (.inl e)))⟩, fun j hj => ?_⟩⟩
    · rw [List.getElem?_append_left (by simpa using lm), List.getElem?_set_self lm, ← hM]; simp [topM]
    · rw [List.getElem?_append_right (by simp)]; simp; rfl
    · rw [List.getElem?_append_right (by simp)]; simp
    · rw [List.getElem?_append_right (by simp)]; simp
    · rcases ownP_add hj with hj | hj | hj | hj
      · exact .inl ((hO j).2 hj)
      · simp only at hj; omega
      · simp only at hj; omega
      · simp only at hj; omega
end

end Go.Proofs.Ytaocmalhjfakdaa
