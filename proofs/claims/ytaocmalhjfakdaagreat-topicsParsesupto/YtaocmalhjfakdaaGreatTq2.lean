/- Contracts: the program's topics: made, found; bounds, records; a topic more. -/
import Derived.Test.YtaocmalhjfakdaaGreatTq1
import Derived.Test.YtaocmalhjfakdaaGreatAwEnd
set_option linter.all false
set_option maxRecDepth 100000
set_option linter.unusedSimpArgs false
set_option linter.unusedVariables false
namespace Go.Proofs.YtaocmalhjfakdaaGreat
open Go.AW

def zcT (T : zak) (n : List UInt8) : Int × Int × Int := match atF n T.l 0 with
  | none => (0, 0, 4)
  | some k => match T.l[k]? with
    | none => (0, 0, 4)
    | some x => (x.base, x.next, 0)
def getF (T : zak) (n : List UInt8) (o : Int) : List UInt8 × Int := match atF n T.l 0 with
  | none => ([], 4)
  | some k => match T.l[k]? with
    | none => ([], 4)
    | some x => if o < x.base ∨ x.next ≤ o then ([], 72) else (x.recs.getD (o - x.base).toNat [], 0)
theorem c_tpNew {σ : List zc} {K : KT} (hK : zfj (σ ++ [.map [], .box (.map σ.length :: zbB zbX.last)]) (σ.length + 1) zbX (fun j => j = σ.length + 1 ∨ j = σ.length) → K (.box (σ.length + 1) 0) (σ ++ [.map [], .box (.map σ.length :: zbB zbX.last)])) : zn Tryz.prog zgB [] σ K := by
  refine zaj zmd.is rfl fun hl _ => zmd.goes ?_
  simp only [zmj, iN, bT, bF, eN]
  refine zby ?_
  refine zaO (hK ⟨σ.length, [], ⟨by rw [zE]; rfl, by rw [zj]; rfl, by simp, by simp, by simp, rfl⟩, .nil, fun j => ?_⟩)
  simp [OwnP]
section

variable {σ : List zc} {id m : Nat} {X : List zeA} {L : List (Int × Int × Int)} {K : KT}

theorem zmF {cs : List AV} (hb : σ[id]? = some (.box (.map m :: cs))) (hK : K (.d (.bool false)) σ) : zn Tryz.prog zbj [.box id 0] σ K := by
  refine zmx zjp fun hl => ?_
  simp only [zfG, iN, bT, bF, eN]
  refine zt hb ?_
  refine zdv hl ?_
  exact hK
theorem zdL {x : zu} {t g : Nat} (hb : σ[id]? = some (topB' x t g)) (h1 : -9223372036854775808 ≤ x.next ∧ x.next ≤ 9223372036854775807) (hK : K (.d (.int .i64 x.next)) σ) : zn Tryz.prog zac [.box id 0] σ K := by
  refine zmx zjY fun hl => ?_
  have hlen := zo x.recs
  have hw : IntKind.i64.wrap (x.base + (x.recs.length : Int)) = x.next := zam h1.1 h1.2
  simp only [zgn, iN, bT, bF, eN]
  refine zt (zb hb (zb hlen hw)) ?_
  refine zdv hl ?_
  exact hK
theorem zlY {A P Q : Prop} (a : A) (h : Q) (e : A → Hd Q → P := by intro a h; (repeat' first | simp -dsimp only [↓zhB, ↓zbf, ↓zcv, ↓zhC, ↓zhx, ↓zhv, ↓zhy, ↓zhw, ↓zcA, ↓zcw, ↓zcB, ↓zcx, ↓zhz, ↓zcu, ↓zcC, ↓zcy, ↓zcD, ↓zcz, ↓zhu, ↓zhA, ↓zct, ↓zcE, ↓zhs, ↓zhr, ↓zht, iN, bT, bF, eN, ↓zea, ↓unC, ↓zad, ↓zN, ↓zO, ↓zU, ↓zaw, ↓zbe, ↓zdk, ↓zaa, ↓zcX, ↓zai, ↓zk, ↓zi, ↓zbE, ↓zh, ↓zar, ↓zC, ↓zbb, ↓zbp, ↓ze, ↓zy, ↓zq, ↓zr, ↓zaA, ↓zeC, ↓zeS, ↓zaI, ↓zaT, ↓zbd, ↓zbF, ↓zbU, ↓zx, ↓zav, ↓zL, ↓zA, ↓zau, zeH, zcn, zcf, unA, zeV, bnd, zfP, zah, zX, zft, dm, dm1, zp, zaG, zgx, zgw, zS, Q0, Q1, Q2, Q3, Q4, Q5, zap, zE, zj, zat, zP, Q6, Q7, Q8, Q9, Q10, Q11, Q12, Q13, Q14, Nat.reduceAdd, Q15, Int.reduceToNat, Q16, Q17, Q18, Q19, Q20, reduceIte, Q21, Q22, zo, rep, zab, zgT, toD, zao, Q23, Q24, Q25, Q26, Q27, Q28, Nat.reduceLeDiff, Q29, Nat.reduceSub, Q30, Q31, Q32, sc, Q33, Q34, Q35, Q36, Q37, Q26, Q38, Q39, n0gt, n1gt, n2gt, n0eq, zjQ, n1eq, n2eq, n0ne, n1ne, zjP, zjR, i0ne, i0eq, Bool.not_true, Bool.not_false, List.length_map, Bool.and_false, Bool.and_self, Bool.false_and, Bool.not_false, Bool.not_true, Bool.true_and, Int.toNat_natCast, Int.toNat_zero, List.drop_zero, List.length_map, List.length_nil, List.nil_append, List.take_length, Nat.sub_zero, Nat.zero_add, Option.isSome_none, Option.isSome_some, Option.map_none, Option.map_some, zbM, beq_self_eq_true, bne_self_eq_false, zkh, zer, zep, zbd, zlu, zbF, a] | with_reducible refine andA ?_ | fail); exact h.go) : P := e a ⟨h⟩
theorem zkT (h : zfp σ id m X L) {n : List UInt8} (hK : K (match zfQ n X 0 with | some q => .tup [.box q.2.id 0, .d (.int .i64 0)] | none => .tup [.d .nilp, .d (.int .i64 4)]) σ) : zn Tryz.prog zaQ [.box id 0, .d (.str n)] σ K := by
  refine zaj zfy.is rfl fun hl _ => zfy.goes ?_
  have hb := h.box
  have hm := h.map
  have hf := zdV n X 0
  simp only [zfH, iN, bT, bF, eN]
  refine zby ?_
  refine zmF hb ?_
  cases hx : zfQ n X 0 with
  | none =>
    rw [hx] at hf hK
    refine zlY (zb hb (zb hm hf)) ?_
    exact zaO hK
  | some q =>
    rw [hx] at hf hK
    refine zlY (zb hb (zb hm hf)) ?_
    exact zaO hK
end


section
variable {σ : List zc} {id m : Nat} {X : List zeA} {T : zak} {O : Nat → Prop} {K : KT}
theorem next_ok {x : zu} (h : TopI x) : -9223372036854775808 ≤ x.next ∧ x.next ≤ 9223372036854775807 := by
  have := h.base; have := h.next; have : x.next = x.base + x.recs.length := rfl; omega
theorem zmY {x y : zu} (h : TR x y) (hI : TopI y) : -9223372036854775808 ≤ x.next ∧ x.next ≤ 9223372036854775807 := by rw [h.next]; exact next_ok hI
theorem c_tpBounds {n : List UInt8} (h : zfj σ id T O) (hI : zed T) (hK : K (.tup [.d (.int .i64 (zcT T n).1), .d (.int .i64 (zcT T n).2.1), .d (.int .i64 (zcT T n).2.2)]) σ) : zn Tryz.prog zde [.box id 0, .d (.str n)] σ K := by
  obtain ⟨m, X, hP, hR, hO⟩ := h
  refine zaj zeG.is rfl fun hl _ => zeG.goes ?_
  simp only [zeL, iN, bT, bF, eN]
  refine zby ?_
  refine zkT hP ?_
  cases hx : zfQ n X 0 with
  | none =>
    have hB : zcT T n = (0, 0, 4) := by rw [zcT, hR.no hx]
    rw [hB] at hK
    refine zt (show ((4 : Int) != 0) = true from rfl) ?_
    refine zaO ?_
    exact hK
  | some q =>
    obtain ⟨i, p⟩ := q
    obtain ⟨h1, h2, k, y, h3, h4, h5⟩ := hR.yes hx
    have hb := (hP.tops p (List.mem_of_getElem? h1)).b
    rw [zcT, h3] at hK
    simp only [h4] at hK
    rw [← h5.base, ← h5.next] at hK
    refine zt hb ?_
    refine zdL hb (zmY h5 (hI.tops y (List.mem_of_getElem? h4))) ?_
    refine zby ?_
    exact zaO hK
theorem c_tpGet {n : List UInt8} {o : Int} (h : zfj σ id T O) (hI : zed T) (hK : K (.tup [.d (.slice (bcs (getF T n o).1)), .d (.int .i64 (getF T n o).2)]) σ) : zn Tryz.prog zcL [.box id 0, .d (.str n), .d (.int .i64 o)] σ K := by
  obtain ⟨m, X, hP, hR, hO⟩ := h
  refine zaj zgi.is rfl fun hl _ => zgi.goes ?_
  simp only [zgp, iN, bT, bF, eN]
  refine zby ?_
  refine zkT hP ?_
  cases hx : zfQ n X 0 with
  | none =>
    have hB : getF T n o = ([], 4) := by rw [getF, hR.no hx]
    rw [hB] at hK
    refine zt (show ((4 : Int) != 0) = true from rfl) ?_
    refine zaO ?_
    exact hK
  | some q =>
    obtain ⟨i, p⟩ := q
    obtain ⟨h1, h2, k, y, h3, h4, h5⟩ := hR.yes hx
    have hy := hI.tops y (List.mem_of_getElem? h4)
    have hb := (hP.tops p (List.mem_of_getElem? h1)).b
    rw [getF, h3] at hK
    simp only [h4] at hK
    rw [← h5.base, ← h5.next, ← h5.recs] at hK
    have hn := zmY h5 hy
    have hlen := zo p.x.recs
    have hnx : p.x.next = p.x.base + p.x.recs.length := rfl
    have hb0 : 0 ≤ p.x.base := by rw [h5.base]; exact hy.base
    cases c0 : decide (o < p.x.base)
    · cases c1 : decide (o ≥ p.x.next)
      · have e0 : ¬ o < p.x.base := by simpa using c0
        have e1 : ¬ p.x.next ≤ o := by simpa using c1
        rw [if_neg (by omega)] at hK
        have hw : IntKind.i64.wrap (o - p.x.base) = o - p.x.base := zam (by omega) (by omega)
        obtain ⟨r, hr⟩ : ∃ r, p.x.recs[(o - p.x.base).toNat]? = some r := ⟨_, List.getElem?_eq_getElem (by omega)⟩
        rw [List.getD_eq_getElem?_getD, hr] at hK
        have hrl : r.length ≤ 64 := hy.each r (by rw [← h5.recs]; exact List.mem_of_getElem? hr)
        have hge : decide (o - p.x.base < (p.x.recs.length : Int)) = true := by simp; omega
        have hge0 : decide (0 ≤ o - p.x.base) = true := by simp; omega
        have hg := zbo (f := fun r => [D.slice (bcs r)]) hr
        refine zt (zb hb c0) ?_
        refine zdL hb hn ?_
        have hgr : (zK p.x.recs)[(o - p.x.base).toNat]? = some [.slice (bcs r)] := hg
        refine zt (zb hb (zb c0 (zb c1 (zb hw (zb hlen hgr))))) ?_
        refine zpv (by omega) ?_
        refine zby ?_
        exact zaO hK
      · have e1 : p.x.next ≤ o := by simpa using c1
        rw [if_pos (.inr e1)] at hK
        refine zt (zb hb c0) ?_
        refine zdL hb hn ?_
        refine zt (zb hb (zb c0 c1)) ?_
        exact zaO hK
    · have e0 : o < p.x.base := by simpa using c0
      rw [if_pos (.inl e0)] at hK
      refine zt (zb hb c0) ?_
      exact zaO hK
theorem createF_some {n : List UInt8} {k : Nat} (h : atF n T.l 0 = some k) : zaY T n = ((5, 0), T) := by rw [zaY, h]; rfl
def After (σ : List zc) (id : Nat) (T' : zak) (O : Nat → Prop) (S : List zc) : Prop := ∃ O', zfj S id T' O' ∧ StO σ S O ∧ ∀ j, O' j → O j ∨ σ.length ≤ j
theorem After.same (h : zfj σ id T O) (τ : List zc) : After σ id T O (σ ++ τ) := ⟨O, h.app τ, .app _ _ _, fun j hj => .inl hj⟩
theorem c_tpCreate {n : List UInt8} (h : zfj σ id T O) (hI : zed T)
    (hK : ∀ S, After σ id (zaY T n).2 O S → K (.d (.int .i64 (zaY T n).1.1)) S) : zn Tryz.prog zdc [.box id 0, .d (.str n)] σ K := by
  have hT := h
  obtain ⟨m, X, hP, hR, hO⟩ := h
  refine zaj zeE.is rfl fun hl _ => zeE.goes ?_
  have hb := hP.box
  have hm := hP.map
  have hf := zdV n X 0
  simp only [zeI, iN, bT, bF, eN]
  cases hx : zfQ n X 0 with
  | some q =>
    obtain ⟨i, p⟩ := q
    obtain ⟨h1, h2, k, y, h3, h4, h5⟩ := hR.yes hx
    rw [createF_some h3] at hK
    rw [hx] at hf
    refine zlY (zb hb (zb hm hf)) ?_
    have := hK _ (.same hT [])
    rw [List.append_nil] at this
    exact zaO this
  | none =>
    have hl8 : (topM X).length = T.l.length := by rw [List.length_map, hR.len]
    rw [hx] at hf
    cases c0 : decide ((T.l.length : Int) ≥ 8)
    rotate_left
    · have hF : zaY T n = ((6, 0), T) := by rw [zaY, hR.no hx, if_neg (by simp), if_pos (by simp at c0; omega)]
      rw [hF] at hK
      refine zlY (zb hb (zb hm (zb hf (zb hl8 c0)))) ?_
      have := hK _ (.same hT [])
      rw [List.append_nil] at this
      exact zaO this
    have hF : zaY T n = ((0, 0), { T with l := T.l.take (zix n T.l) ++ ⟨n, 0, [], []⟩ :: T.l.drop (zix n T.l) }) := by
      rw [zaY, hR.no hx, if_neg (by simp), if_neg (by simp at c0; omega)]
    rw [hF] at hK
    have hb' : ∀ τ, (σ ++ τ)[id]? = _ := fun τ => zf hb
    have hm' : ∀ τ, (σ ++ τ)[m]? = _ := fun τ => zf hm
    have lm := zg hm
    have xs : ∀ Y τ, (σ ++ τ).set m Y = σ.set m Y ++ τ := fun Y τ => List.set_append_left _ _ lm
    refine zlY (zb hb (zb hm (zb hb' (zb hm' (zb xs (zb hf (zb hl8 c0))))))) ?_
    obtain ⟨M, hM⟩ : ∃ M, zc.map (topM X ++ [(AV.d (D.str n), AV.box (σ.length + 1) 0)]) = M := ⟨_, rfl⟩
    rw [hM]
    have hW : zle [] (σ.set m M ++ [.map [], .box [.d (.int .i64 0), .exact [], .map σ.length]]) [] (σ.set m M ++ [.map [], .box [.d (.int .i64 0), .own (σ.length + 2) [], .map σ.length], .tok 1 0]) := by
      refine .tokB (σ.length + 1) 1 [.d (.int .i64 0), .exact [], .map σ.length] [] 1 (by rw [List.getElem?_append_right (by simp)]; simp) rfl (by simp) ?_
      rw [List.set_append_right _ _ (by simp)]
      simp only [List.length_append, List.length_set, List.length_cons, List.length_nil, Nat.add_sub_cancel_left, List.set_cons_succ, List.set_cons_zero, List.append_assoc, List.cons_append, List.nil_append, Nat.zero_add, Nat.reduceAdd]
      exact .refl _ _
    have g0 : ∀ j τ, j < σ.length → j ≠ m → (σ.set m M ++ τ)[j]? = σ[j]? := fun j τ hj hne => by
      rw [List.getElem?_append_left (by simpa using hj), List.getElem?_set_ne (Ne.symm hne)]
    refine ⟨_, hW, hK _ ⟨OwnP id m (X ++ [⟨⟨n, 0, [], []⟩, σ.length + 1, σ.length, σ.length + 2⟩]), ⟨m, _, hP.add (p := ⟨⟨n, 0, [], []⟩, σ.length + 1, σ.length, σ.length + 2⟩) (by simp) (by simp) (by simp) (fun j hj hne => g0 j _ (hP.own_lt hj) hne) ?_ ⟨?_, ?_, ?_⟩, hR.add hx ⟨rfl, rfl, rfl, .nil⟩ rfl, fun j => Iff.rfl⟩, ⟨by simp, fun j hj hlt => g0 j _ hlt fun e => hj ((hO j).2 (.inr (.inl e)))⟩, fun j hj => ?_⟩⟩
    · rw [List.getElem?_append_left (by simpa using lm), List.getElem?_set_self lm, ← hM]; simp [topM]
    · rw [List.getElem?_append_right (by simp)]; simp; rfl
    · rw [List.getElem?_append_right (by simp)]; simp
    · rw [List.getElem?_append_right (by simp)]; simp
    · rcases ownP_add hj with hj | hj | hj | hj
      · exact .inl ((hO j).2 hj)
      · simp only at hj; omega
      · simp only at hj; omega
      · simp only at hj; omega
end

end Go.Proofs.YtaocmalhjfakdaaGreat
