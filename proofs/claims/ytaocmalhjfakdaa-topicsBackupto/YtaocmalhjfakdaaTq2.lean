/- Contracts: the program's topics: made, found; bounds, records; a topic more. -/
import Derived.Test.YtaocmalhjfakdaaTq1
import Derived.Test.YtaocmalhjfakdaaPr3
set_option linter.all false
set_option maxRecDepth 100000
set_option linter.unusedSimpArgs false
set_option linter.unusedVariables false
namespace Go.Proofs.Ytaocmalhjfakdaa
open Go.AW

def getF (T : zO) (n : List UInt8) (o : Int) : List UInt8 × Int := match atF n T.l 0 with
  | none => ([], 4)
  | some k => match T.l[k]? with
    | none => ([], 4)
    | some x => if o < x.base ∨ x.next ≤ o then ([], 72) else (x.recs.getD (o - x.base).toNat [], 0)
theorem c_tpNew {σ : List zc} {K : AV → List zc → Prop} (hK : zda (σ ++ [.map [], .box (.map σ.length :: zbX zbR.last)]) (σ.length + 1) zbR (fun j => j = σ.length + 1 ∨ j = σ.length) → K (.box (σ.length + 1) 0) (σ ++ [.map [], .box (.map σ.length :: zbX zbR.last)])) : zt Try.prog zdN [] σ K := by
  refine zat zjO.is rfl fun hl _ => zjO.goes ?_
  simp only [zjT, iN, bT, bF, eN]
  refine gq1 ?_
  refine zaR (hK ⟨σ.length, [], ⟨by rw [zG]; rfl, by rw [zi]; rfl, by simp, by simp, by simp, rfl⟩, .nil, fun j => ?_⟩)
  simp [OwnP]
section

variable {σ : List zc} {id m : Nat} {X : List zcG} {L : List (Int × Int × Int)} {K : AV → List zc → Prop}

theorem ziP {cs : List AV} (hb : σ[id]? = some (.box (.map m :: cs))) (hK : K (.d (.bool false)) σ) : zt Try.prog zav [.box id 0] σ K := by
  refine acE1 zhp fun hl => ?_
  simp only [zev, iN, bT, bF, eN]
  refine gq2 hb ?_
  refine zgk hl ?_
  exact hK
theorem zdm {x : zC} {t g : Nat} (hb : σ[id]? = some (topB' x t g)) (h1 : -9223372036854775808 ≤ x.next ∧ x.next ≤ 9223372036854775807) (hK : K (.d (.int .i64 x.next)) σ) : zt Try.prog zT [.box id 0] σ K := by
  refine acE1 zie fun hl => ?_
  have hlen := zu x.recs
  have hw : IntKind.i64.wrap (x.base + (x.recs.length : Int)) = x.next := zbJ h1.1 h1.2
  simp only [zfe, iN, bT, bF, eN]
  refine gq2 (zb hb (zb hlen hw)) ?_
  refine zgk hl ?_
  exact hK
theorem zmU (h : zek σ id m X L) {n : List UInt8} (hK : K (match zeV n X 0 with | some q => .tup [.box q.2.id 0, .d (.int .i64 0)] | none => .tup [.d .nilp, .d (.int .i64 4)]) σ) : zt Try.prog zaW [.box id 0, .d (.str n)] σ K := by
  refine zat zep.is rfl fun hl _ => zep.goes ?_
  have hb := h.box
  have hm := h.map
  have hf := zcR n X 0
  simp only [zew, iN, bT, bF, eN]
  refine gq1 ?_
  refine ziP hb ?_
  cases hx : zeV n X 0 with
  | none =>
    rw [hx] at hf hK
    refine gq3 (zb hb (zb hm hf)) ?_
    exact zaR hK
  | some q =>
    rw [hx] at hf hK
    refine gq3 (zb hb (zb hm hf)) ?_
    exact zaR hK
end


section
variable {σ : List zc} {id m : Nat} {X : List zcG} {T : zO} {O : Nat → Prop} {K : AV → List zc → Prop}
theorem next_ok {x : zC} (h : TopI x) : -9223372036854775808 ≤ x.next ∧ x.next ≤ 9223372036854775807 := by
  have := h.base; have := h.next; have : x.next = x.base + x.recs.length := rfl; omega
theorem zmD {x y : zC} (h : TR x y) (hI : TopI y) : -9223372036854775808 ≤ x.next ∧ x.next ≤ 9223372036854775807 := by rw [h.next]; exact next_ok hI
theorem c_tpGet {n : List UInt8} {o : Int} (h : zda σ id T O) (hI : zdn T) (hK : K (.tup [.d (.slice (bcs (getF T n o).1)), .d (.int .i64 (getF T n o).2)]) σ) : zt Try.prog zcL [.box id 0, .d (.str n), .d (.int .i64 o)] σ K := by
  obtain ⟨m, X, hP, hR, hO⟩ := h
  refine zat zeZ.is rfl fun hl _ => zeZ.goes ?_
  simp only [zfg, iN, bT, bF, eN]
  refine gq1 ?_
  refine zmU hP ?_
  cases hx : zeV n X 0 with
  | none =>
    have hB : getF T n o = ([], 4) := by rw [getF, hR.no hx]
    rw [hB] at hK
    refine gq2 (show ((4 : Int) != 0) = true from rfl) ?_
    refine zaR ?_
    exact hK
  | some q =>
    obtain ⟨i, p⟩ := q
    obtain ⟨h1, h2, k, y, h3, h4, h5⟩ := hR.yes hx
    have hy := hI.tops y (List.mem_of_getElem? h4)
    have hb := (hP.tops p (List.mem_of_getElem? h1)).b
    rw [getF, h3] at hK
    simp only [h4] at hK
    rw [← h5.base, ← h5.next, ← h5.recs] at hK
    have hn := zmD h5 hy
    have hlen := zu p.x.recs
    have hnx : p.x.next = p.x.base + p.x.recs.length := rfl
    have hb0 : 0 ≤ p.x.base := by rw [h5.base]; exact hy.base
    cases c0 : decide (o < p.x.base)
    · cases c1 : decide (o ≥ p.x.next)
      · have e0 : ¬ o < p.x.base := by simpa using c0
        have e1 : ¬ p.x.next ≤ o := by simpa using c1
        rw [if_neg (by omega)] at hK
        have hw : IntKind.i64.wrap (o - p.x.base) = o - p.x.base := zbJ (by omega) (by omega)
        obtain ⟨r, hr⟩ : ∃ r, p.x.recs[(o - p.x.base).toNat]? = some r := ⟨_, List.getElem?_eq_getElem (by omega)⟩
        rw [List.getD_eq_getElem?_getD, hr] at hK
        have hrl : r.length ≤ 64 := hy.each r (by rw [← h5.recs]; exact List.mem_of_getElem? hr)
        have hge : decide (o - p.x.base < (p.x.recs.length : Int)) = true := by simp; omega
        have hge0 : decide (0 ≤ o - p.x.base) = true := by simp; omega
        have hg := zjl (f := fun r => [D.slice (bcs r)]) hr
        refine gq2 (zb hb c0) ?_
        refine zdm hb hn ?_
        have hgr : (zbz p.x.recs)[(o - p.x.base).toNat]? = some [.slice (bcs r)] := hg
        refine gq2 (zb hb (zb c0 (zb c1 (zb hw (zb hlen hgr))))) ?_
        refine zmX (by omega) ?_
        refine gq1 ?_
        exact zaR hK
      · have e1 : p.x.next ≤ o := by simpa using c1
        rw [if_pos (.inr e1)] at hK
        refine gq2 (zb hb c0) ?_
        refine zdm hb hn ?_
        refine gq2 (zb hb (zb c0 c1)) ?_
        exact zaR hK
    · have e0 : o < p.x.base := by simpa using c0
      rw [if_pos (.inl e0)] at hK
      refine gq2 (zb hb c0) ?_
      exact zaR hK
theorem createF_some {n : List UInt8} {k : Nat} (h : atF n T.l 0 = some k) : zbw T n = ((5, 0), T) := by rw [zbw, h]; rfl
def After (σ : List zc) (id : Nat) (T' : zO) (O : Nat → Prop) (S : List zc) : Prop := ∃ O', zda S id T' O' ∧ StO σ S O ∧ ∀ j, O' j → O j ∨ σ.length ≤ j
theorem After.same (h : zda σ id T O) (τ : List zc) : After σ id T O (σ ++ τ) := ⟨O, h.app τ, .app _ _ _, fun j hj => .inl hj⟩
theorem c_tpCreate {n : List UInt8} (h : zda σ id T O) (hI : zdn T)
    (hK : ∀ S, After σ id (zbw T n).2 O S → K (.d (.int .i64 (zbw T n).1.1)) S) : zt Try.prog zbT [.box id 0, .d (.str n)] σ K := by
  have hT := h
  obtain ⟨m, X, hP, hR, hO⟩ := h
  refine zat zdu.is rfl fun hl _ => zdu.goes ?_
  have hb := hP.box
  have hm := hP.map
  have hf := zcR n X 0
  simp only [zdy, iN, bT, bF, eN]
  cases hx : zeV n X 0 with
  | some q =>
    obtain ⟨i, p⟩ := q
    obtain ⟨h1, h2, k, y, h3, h4, h5⟩ := hR.yes hx
    rw [createF_some h3] at hK
    rw [hx] at hf
    refine gq3 (zb hb (zb hm hf)) ?_
    have := hK _ (.same hT [])
    rw [List.append_nil] at this
    exact zaR this
  | none =>
    have hl8 : (topM X).length = T.l.length := by rw [List.length_map, hR.len]
    rw [hx] at hf
    cases c0 : decide ((T.l.length : Int) ≥ 8)
    rotate_left
    · have hF : zbw T n = ((6, 0), T) := by rw [zbw, hR.no hx, if_neg (by simp), if_pos (by simp at c0; omega)]
      rw [hF] at hK
      refine gq3 (zb hb (zb hm (zb hf (zb hl8 c0)))) ?_
      have := hK _ (.same hT [])
      rw [List.append_nil] at this
      exact zaR this
    have hF : zbw T n = ((0, 0), { T with l := T.l.take (zlq n T.l) ++ ⟨n, 0, [], []⟩ :: T.l.drop (zlq n T.l) }) := by
      rw [zbw, hR.no hx, if_neg (by simp), if_neg (by simp at c0; omega)]
    rw [hF] at hK
    have hb' : ∀ τ, (σ ++ τ)[id]? = _ := fun τ => zf hb
    have hm' : ∀ τ, (σ ++ τ)[m]? = _ := fun τ => zf hm
    have lm := zg hm
    have xs : ∀ Y τ, (σ ++ τ).set m Y = σ.set m Y ++ τ := fun Y τ => List.set_append_left _ _ lm
    refine gq3 (zb hb (zb hm (zb hb' (zb hm' (zb xs (zb hf (zb hl8 c0))))))) ?_
    obtain ⟨M, hM⟩ : ∃ M, zc.map (topM X ++ [(AV.d (D.str n), AV.box (σ.length + 1) 0)]) = M := ⟨_, rfl⟩
    rw [hM]
    have hW : zjS [] (σ.set m M ++ [.map [], .box [.d (.int .i64 0), .exact [], .map σ.length]]) [] (σ.set m M ++ [.map [], .box [.d (.int .i64 0), .own (σ.length + 2) [], .map σ.length], .tok 1 0]) := by
      refine .tokB (σ.length + 1) 1 [.d (.int .i64 0), .exact [], .map σ.length] [] 1 (by rw [List.getElem?_append_right (by simp)]; simp) rfl (by simp) ?_
      rw [List.set_append_right _ _ (by simp)]
      simp only [List.length_append, List.length_set, List.length_cons, List.length_nil, Nat.add_sub_cancel_left, List.set_cons_succ, List.set_cons_zero, List.append_assoc, List.cons_append, List.nil_append, Nat.zero_add, Nat.reduceAdd]
      exact .refl _ _
    have g0 : ∀ j τ, j < σ.length → j ≠ m → (σ.set m M ++ τ)[j]? = σ[j]? := fun j τ hj hne => by
      rw [List.getElem?_append_left (by simpa using hj), List.getElem?_set_ne (Ne.symm hne)]
    refine ⟨_, hW, hK _ ⟨OwnP id m (X ++ [⟨⟨n, 0, [], []⟩, σ.length + 1, σ.length, σ.length + 2⟩]), ⟨m, _, hP.add (p := ⟨⟨n, 0, [], []⟩, σ.length + 1, σ.length, σ.length + 2⟩) (by simp) (by simp) (by simp) (fun j hj hne => g0 j _ (hP.own_lt hj) hne) ?_ ⟨?_, ?_, ?_⟩, hR.add hx ⟨rfl, rfl, rfl, .nil⟩ rfl, fun j => Iff.rfl⟩, ⟨by simp, fun j hj hlt => g0 j _ hlt fun e => hj ((hO j).2 (.inr (.inl e)))⟩, fun j hj => ?_⟩⟩
    · rw [List.getElem?_append_left (by simpa using lm), List.getElem?_set_self lm, ← hM]; simp [topM]
    · rw [List.getElem?_append_right (by simp)]; simp; rfl
    · rw [List.getElem?_append_right (by simp)]; simp
    · rw [List.getElem?_append_right (by simp)]; simp
    · rcases ownP_add hj with hj | hj | hj | hj
      · exact .inl ((hO j).2 hj)
      · simp only at hj; omega
      · simp only at hj; omega
      · simp only at hj; omega
end

end Go.Proofs.Ytaocmalhjfakdaa
