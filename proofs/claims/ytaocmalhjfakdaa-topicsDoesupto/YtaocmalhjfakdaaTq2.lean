/- Contracts: the program's topics: made, found; bounds, records; a topic more. -/
import Derived.Test.YtaocmalhjfakdaaTq1
import Derived.Test.YtaocmalhjfakdaaSpMap
set_option linter.all false
set_option maxRecDepth 100000
set_option linter.unusedSimpArgs false
set_option linter.unusedVariables false
namespace Go.Proofs.Ytaocmalhjfakdaa
open Go.AW

def zbV (T : zP) (n : List UInt8) : Int × Int × Int := match atF n T.l 0 with
  | none => (0, 0, 4)
  | some k => match T.l[k]? with
    | none => (0, 0, 4)
    | some x => (x.base, x.next, 0)
def getF (T : zP) (n : List UInt8) (o : Int) : List UInt8 × Int := match atF n T.l 0 with
  | none => ([], 4)
  | some k => match T.l[k]? with
    | none => ([], 4)
    | some x => if o < x.base ∨ x.next ≤ o then ([], 72) else (x.recs.getD (o - x.base).toNat [], 0)
theorem c_tpNew {σ : List zb} {K : AV → List zb → Prop} (hK : zdm (σ ++ [.map [], .box (.map σ.length :: zbb zcw.last)]) (σ.length + 1) zcw (fun j => j = σ.length + 1 ∨ j = σ.length) → K (.box (σ.length + 1) 0) (σ ++ [.map [], .box (.map σ.length :: zbb zcw.last)])) : zu Try.prog zfp [] σ K := by
  refine zau zjF.is rfl fun hl _ => zjF.goes ?_
  simp only [zjK, iN, bT, bF, eN]
  refine zbw ?_
  refine zaR (hK ⟨σ.length, [], ⟨by rw [zE]; rfl, by rw [zl]; rfl, by simp, by simp, by simp, rfl⟩, .nil, fun j => ?_⟩)
  simp [OwnP]
section

variable {σ : List zb} {id m : Nat} {X : List zcv} {L : List (Int × Int × Int)} {K : AV → List zb → Prop}

theorem zht {cs : List AV} (hb : σ[id]? = some (.box (.map m :: cs))) (hK : K (.d (.bool false)) σ) : zu Try.prog zal [.box id 0] σ K := by
  refine zlr zhy fun hl => ?_
  simp only [zez, iN, bT, bF, eN]
  refine zV hb ?_
  refine zde hl ?_
  exact hK
theorem zeH {x : zJ} {t g : Nat} (hb : σ[id]? = some (topB' x t g)) (h1 : -9223372036854775808 ≤ x.next ∧ x.next ≤ 9223372036854775807) (hK : K (.d (.int .i64 x.next)) σ) : zu Try.prog zac [.box id 0] σ K := by
  refine zlr zig fun hl => ?_
  have hlen := zn x.recs
  have hw : IntKind.i64.wrap (x.base + (x.recs.length : Int)) = x.next := zaO h1.1 h1.2
  simp only [zfi, iN, bT, bF, eN]
  refine zV (zd hb (zd hlen hw)) ?_
  refine zde hl ?_
  exact hK
theorem zkH {A P Q : Prop} (a : A) (h : Q) (e : A → Hd Q → P := by intro a h; (repeat' first | simp -dsimp only [↓zhT, ↓zbn, ↓zcK, ↓zhV, ↓zhN, ↓zhL, ↓zhO, ↓zhM, ↓zcQ, ↓zcM, ↓zcR, ↓zcN, ↓zhP, ↓zcI, ↓zcS, ↓zcO, ↓zcT, ↓zcP, ↓zhJ, ↓zhS, ↓zcH, ↓zcV, ↓zhC, ↓zhB, ↓zhI, iN, bT, bF, eN, ↓zeJ, ↓unC, ↓zap, ↓zR, ↓zS, ↓zY, ↓zaF, ↓zaY, ↓zdC, ↓zax, ↓zcY, ↓zae, ↓zk, ↓zi, ↓zcc, ↓zg, ↓zaq, ↓zt, ↓zbc, ↓zbk, ↓zf, ↓zA, ↓zw, ↓zx, ↓zaL, ↓zeU, ↓zeT, ↓zaM, ↓zbd, ↓zbg, ↓zbF, ↓zcj, ↓zC, ↓zay, ↓zT, ↓zF, ↓zaE, zeP, zcu, zco, unA, zfn, bnd, zfF, zai, zag, zfW, dm, dm1, zj, zaD, zgu, zgt, keepO, Q0, Q1, Q2, Q3, Q4, Q5, zao, zE, zl, zar, zW, Q6, Q7, Q8, Q9, Q10, Q11, Q12, Q13, Q14, Nat.reduceAdd, Q15, Int.reduceToNat, Q16, Q17, Q18, Q19, Q20, reduceIte, Q21, Q22, zn, rep, zX, zhD, toD, zaz, Q23, Q24, Q25, Q26, Q27, Q28, Nat.reduceLeDiff, Q29, Nat.reduceSub, Q30, Q31, Q32, sc, Q33, Q34, Q35, Q36, Q37, Q26, Q38, Q39, n0gt, n1gt, n2gt, n0eq, ziD, n1eq, n2eq, n0ne, n1ne, ziC, ziE, i0ne, i0eq, Bool.not_true, Bool.not_false, List.length_map, Bool.and_false, Bool.and_self, Bool.false_and, Bool.not_false, Bool.not_true, Bool.true_and, Int.toNat_natCast, Int.toNat_zero, List.drop_zero, List.length_map, List.length_nil, List.nil_append, List.take_length, Nat.sub_zero, Nat.zero_add, Option.isSome_none, Option.isSome_some, Option.map_none, Option.map_some, zfO, beq_self_eq_true, bne_self_eq_false, zim, zdX, zdV, zbg, zjR, zbF, a] | with_reducible refine andA ?_ | fail); exact h.go) : P := e a ⟨h⟩
theorem ziM (h : zdR σ id m X L) {n : List UInt8} (hK : K (match zem n X 0 with | some q => .tup [.box q.2.id 0, .d (.int .i64 0)] | none => .tup [.d .nilp, .d (.int .i64 4)]) σ) : zu Try.prog zaB [.box id 0, .d (.str n)] σ K := by
  refine zau zet.is rfl fun hl _ => zet.goes ?_
  have hb := h.box
  have hm := h.map
  have hf := zdh n X 0
  simp only [zeA, iN, bT, bF, eN]
  refine zbw ?_
  refine zht hb ?_
  cases hx : zem n X 0 with
  | none =>
    rw [hx] at hf hK
    refine zkH (zd hb (zd hm hf)) ?_
    exact zaR hK
  | some q =>
    rw [hx] at hf hK
    refine zkH (zd hb (zd hm hf)) ?_
    exact zaR hK
end


section
variable {σ : List zb} {id m : Nat} {X : List zcv} {T : zP} {O : Nat → Prop} {K : AV → List zb → Prop}
theorem next_ok {x : zJ} (h : TopI x) : -9223372036854775808 ≤ x.next ∧ x.next ≤ 9223372036854775807 := by
  have := h.base; have := h.next; have : x.next = x.base + x.recs.length := rfl; omega
theorem zks {x y : zJ} (h : TR x y) (hI : TopI y) : -9223372036854775808 ≤ x.next ∧ x.next ≤ 9223372036854775807 := by rw [h.next]; exact next_ok hI
theorem c_tpBounds {n : List UInt8} (h : zdm σ id T O) (hI : zcF T) (hK : K (.tup [.d (.int .i64 (zbV T n).1), .d (.int .i64 (zbV T n).2.1), .d (.int .i64 (zbV T n).2.2)]) σ) : zu Try.prog zch [.box id 0, .d (.str n)] σ K := by
  obtain ⟨m, X, hP, hR, hO⟩ := h
  refine zau zdF.is rfl fun hl _ => zdF.goes ?_
  simp only [zdJ, iN, bT, bF, eN]
  refine zbw ?_
  refine ziM hP ?_
  cases hx : zem n X 0 with
  | none =>
    have hB : zbV T n = (0, 0, 4) := by rw [zbV, hR.no hx]
    rw [hB] at hK
    refine zV (show ((4 : Int) != 0) = true from rfl) ?_
    refine zaR ?_
    exact hK
  | some q =>
    obtain ⟨i, p⟩ := q
    obtain ⟨h1, h2, k, y, h3, h4, h5⟩ := hR.yes hx
    have hb := (hP.tops p (List.mem_of_getElem? h1)).b
    rw [zbV, h3] at hK
    simp only [h4] at hK
    rw [← h5.base, ← h5.next] at hK
    refine zV hb ?_
    refine zeH hb (zks h5 (hI.tops y (List.mem_of_getElem? h4))) ?_
    refine zbw ?_
    exact zaR hK
theorem c_tpGet {n : List UInt8} {o : Int} (h : zdm σ id T O) (hI : zcF T) (hK : K (.tup [.d (.slice (bcs (getF T n o).1)), .d (.int .i64 (getF T n o).2)]) σ) : zu Try.prog zbO [.box id 0, .d (.str n), .d (.int .i64 o)] σ K := by
  obtain ⟨m, X, hP, hR, hO⟩ := h
  refine zau zfb.is rfl fun hl _ => zfb.goes ?_
  simp only [zfj, iN, bT, bF, eN]
  refine zbw ?_
  refine ziM hP ?_
  cases hx : zem n X 0 with
  | none =>
    have hB : getF T n o = ([], 4) := by rw [getF, hR.no hx]
    rw [hB] at hK
    refine zV (show ((4 : Int) != 0) = true from rfl) ?_
    refine zaR ?_
    exact hK
  | some q =>
    obtain ⟨i, p⟩ := q
    obtain ⟨h1, h2, k, y, h3, h4, h5⟩ := hR.yes hx
    have hy := hI.tops y (List.mem_of_getElem? h4)
    have hb := (hP.tops p (List.mem_of_getElem? h1)).b
    rw [getF, h3] at hK
    simp only [h4] at hK
    rw [← h5.base, ← h5.next, ← h5.recs] at hK
    have hn := zks h5 hy
    have hlen := zn p.x.recs
    have hnx : p.x.next = p.x.base + p.x.recs.length := rfl
    have hb0 : 0 ≤ p.x.base := by rw [h5.base]; exact hy.base
    cases c0 : decide (o < p.x.base)
    · cases c1 : decide (o ≥ p.x.next)
      · have e0 : ¬ o < p.x.base := by simpa using c0
        have e1 : ¬ p.x.next ≤ o := by simpa using c1
        rw [if_neg (by omega)] at hK
        have hw : IntKind.i64.wrap (o - p.x.base) = o - p.x.base := zaO (by omega) (by omega)
        obtain ⟨r, hr⟩ : ∃ r, p.x.recs[(o - p.x.base).toNat]? = some r := ⟨_, List.getElem?_eq_getElem (by omega)⟩
        rw [List.getD_eq_getElem?_getD, hr] at hK
        have hrl : r.length ≤ 64 := hy.each r (by rw [← h5.recs]; exact List.mem_of_getElem? hr)
        have hge : decide (o - p.x.base < (p.x.recs.length : Int)) = true := by simp; omega
        have hge0 : decide (0 ≤ o - p.x.base) = true := by simp; omega
        have hg := zaP (f := fun r => [D.slice (bcs r)]) hr
        refine zV (zd hb c0) ?_
        refine zeH hb hn ?_
        have hgr : (zQ p.x.recs)[(o - p.x.base).toNat]? = some [.slice (bcs r)] := hg
        refine zV (zd hb (zd c0 (zd c1 (zd hw (zd hlen hgr))))) ?_
        refine zkW (by omega) ?_
        refine zbw ?_
        exact zaR hK
      · have e1 : p.x.next ≤ o := by simpa using c1
        rw [if_pos (.inr e1)] at hK
        refine zV (zd hb c0) ?_
        refine zeH hb hn ?_
        refine zV (zd hb (zd c0 c1)) ?_
        exact zaR hK
    · have e0 : o < p.x.base := by simpa using c0
      rw [if_pos (.inl e0)] at hK
      refine zV (zd hb c0) ?_
      exact zaR hK
theorem createF_some {n : List UInt8} {k : Nat} (h : atF n T.l 0 = some k) : zaK T n = ((5, 0), T) := by rw [zaK, h]; rfl
def After (σ : List zb) (id : Nat) (T' : zP) (O : Nat → Prop) (S : List zb) : Prop := ∃ O', zdm S id T' O' ∧ StO σ S O ∧ ∀ j, O' j → O j ∨ σ.length ≤ j
theorem After.same (h : zdm σ id T O) (τ : List zb) : After σ id T O (σ ++ τ) := ⟨O, h.app τ, .app _ _ _, fun j hj => .inl hj⟩
theorem c_tpCreate {n : List UInt8} (h : zdm σ id T O) (hI : zcF T)
    (hK : ∀ S, After σ id (zaK T n).2 O S → K (.d (.int .i64 (zaK T n).1.1)) S) : zu Try.prog zcf [.box id 0, .d (.str n)] σ K := by
  have hT := h
  obtain ⟨m, X, hP, hR, hO⟩ := h
  refine zau zdD.is rfl fun hl _ => zdD.goes ?_
  have hb := hP.box
  have hm := hP.map
  have hf := zdh n X 0
  simp only [zdG, iN, bT, bF, eN]
  cases hx : zem n X 0 with
  | some q =>
    obtain ⟨i, p⟩ := q
    obtain ⟨h1, h2, k, y, h3, h4, h5⟩ := hR.yes hx
    rw [createF_some h3] at hK
    rw [hx] at hf
    refine zkH (zd hb (zd hm hf)) ?_
    have := hK _ (.same hT [])
    rw [List.append_nil] at this
    exact zaR this
  | none =>
    have hl8 : (zmd X).length = T.l.length := by rw [List.length_map, hR.len]
    rw [hx] at hf
    cases c0 : decide ((T.l.length : Int) ≥ 8)
    rotate_left
    · have hF : zaK T n = ((6, 0), T) := by rw [zaK, hR.no hx, if_neg (by simp), if_pos (by simp at c0; omega)]
      rw [hF] at hK
      refine zkH (zd hb (zd hm (zd hf (zd hl8 c0)))) ?_
      have := hK _ (.same hT [])
      rw [List.append_nil] at this
      exact zaR this
    have hF : zaK T n = ((0, 0), { T with l := T.l.take (zgM n T.l) ++ ⟨n, 0, [], []⟩ :: T.l.drop (zgM n T.l) }) := by
      rw [zaK, hR.no hx, if_neg (by simp), if_neg (by simp at c0; omega)]
    rw [hF] at hK
    have hb' : ∀ τ, (σ ++ τ)[id]? = _ := fun τ => ze hb
    have hm' : ∀ τ, (σ ++ τ)[m]? = _ := fun τ => ze hm
    have lm := zh hm
    have xs : ∀ Y τ, (σ ++ τ).set m Y = σ.set m Y ++ τ := fun Y τ => List.set_append_left _ _ lm
    refine zkH (zd hb (zd hm (zd hb' (zd hm' (zd xs (zd hf (zd hl8 c0))))))) ?_
    obtain ⟨M, hM⟩ : ∃ M, zb.map (zmd X ++ [(AV.d (D.str n), AV.box (σ.length + 1) 0)]) = M := ⟨_, rfl⟩
    rw [hM]
    have hW : zju [] (σ.set m M ++ [.map [], .box [.d (.int .i64 0), .exact [], .map σ.length]]) [] (σ.set m M ++ [.map [], .box [.d (.int .i64 0), .own (σ.length + 2) [], .map σ.length], .tok 1 0]) := by
      refine .tokB (σ.length + 1) 1 [.d (.int .i64 0), .exact [], .map σ.length] [] 1 (by rw [List.getElem?_append_right (by simp)]; simp) rfl (by simp) ?_
      rw [List.set_append_right _ _ (by simp)]
      simp only [List.length_append, List.length_set, List.length_cons, List.length_nil, Nat.add_sub_cancel_left, List.set_cons_succ, List.set_cons_zero, List.append_assoc, List.cons_append, List.nil_append, Nat.zero_add, Nat.reduceAdd]
      exact .refl _ _
    have g0 : ∀ j τ, j < σ.length → j ≠ m → (σ.set m M ++ τ)[j]? = σ[j]? := fun j τ hj hne => by
      rw [List.getElem?_append_left (by simpa using hj), List.getElem?_set_ne (Ne.symm hne)]
    refine ⟨_, hW, hK _ ⟨OwnP id m (X ++ [⟨⟨n, 0, [], []⟩, σ.length + 1, σ.length, σ.length + 2⟩]), ⟨m, _, hP.add (p := ⟨⟨n, 0, [], []⟩, σ.length + 1, σ.length, σ.length + 2⟩) (by simp) (by simp) (by simp) (fun j hj hne => g0 j _ (hP.own_lt hj) hne) ?_ ⟨?_, ?_, ?_⟩, hR.add hx ⟨rfl, rfl, rfl, .nil⟩ rfl, fun j => Iff.rfl⟩, ⟨by simp, fun j hj hlt => g0 j _ hlt fun e => hj ((hO j).2 (.inr (.inl e)))⟩, fun j hj => ?_⟩⟩
    · rw [List.getElem?_append_left (by simpa using lm), List.getElem?_set_self lm, ← hM]; simp [zmd]
    · rw [List.getElem?_append_right (by simp)]; simp; rfl
    · rw [List.getElem?_append_right (by simp)]; simp
    · rw [List.getElem?_append_right (by simp)]; simp
    · rcases ownP_add hj with hj | hj | hj | hj
      · exact .inl ((hO j).2 hj)
      · simp only at hj; omega
      · simp only at hj; omega
      · simp only at hj; omega
end

end Go.Proofs.Ytaocmalhjfakdaa
