/- The law TopicsStays, from the contracts. -/
import Derived.Test.YtaocmalhjfakdaaLv7
import Derived.Test.YtaocmalhjfakdaaSpStay
set_option linter.all false
set_option maxRecDepth 100000
set_option linter.unusedSimpArgs false
set_option linter.unusedVariables false
namespace Go.Proofs.Ytaocmalhjfakdaa
open Go.AW

abbrev atM (Y : List AtE) : List (AV × AV) := Y.map fun e => (.d (.str e.n), .own e.t (recsE e.l))
theorem mfind_atM (n : List UInt8) : ∀ (Y : List AtE) (i : Nat), mfind .str (.d (.str n)) (atM Y) i = some ((findY n Y i).map fun q => (q.1, .own q.2.t (recsE q.2.l)))
  | [], _ => rfl
  | p :: r, i => by
    simp only [atM, List.map_cons, mfind, keyEq, findY]
    by_cases h : n = p.n
    · simp [h]
    · have : (n == p.n) = false := by simpa using h
      simp only [this, if_neg h]
      exact mfind_atM n r (i + 1)
structure StayJ (S : List AObj) (id am : Nat) (T : TTops) (Y : List AtE) (O : Nat → Prop) : Prop where
  top : TpAt S id T O
  map : S[am]? = some (.map (atM Y))
  tok : ∀ e ∈ Y, S[e.t]? = some (.tok 1 e.l.length)
  sep : ∀ (i j : Nat) (e f : AtE), Y[i]? = some e → Y[j]? = some f → i ≠ j → e.t ≠ f.t
  own : ¬ O am ∧ ∀ e ∈ Y, ¬ O e.t
section

variable {S S' : List AObj} {id am : Nat} {T T' : TTops} {Y : List AtE} {O : Nat → Prop}

theorem StayJ.app (h : StayJ S id am T Y O) (τ : List AObj) : StayJ (S ++ τ) id am T Y O :=
  ⟨h.top.app τ, get_left h.map, fun e he => get_left (h.tok e he), h.sep, h.own⟩
theorem StayJ.after (h : StayJ S id am T Y O) (hA : After S id T' O S') : ∃ O', StayJ S' id am T' Y O' ∧ StO S S' O ∧ ∀ j, O' j → O j ∨ S.length ≤ j := by
  obtain ⟨O', h1, h2, h3⟩ := hA
  refine ⟨O', ⟨h1, h2.at_ h.map h.own.1, fun e he => h2.at_ (h.tok e he) (h.own.2 e he), h.sep, fun hj => ?_, fun e he hj => ?_⟩, h2, h3⟩
  · have := lt_len h.map
    exact (h3 _ hj).elim h.own.1 fun h => by omega
  · have := lt_len (h.tok e he)
    exact (h3 _ hj).elim (h.own.2 e he) fun h => by omega
theorem StayJ.more (h : StayJ S id am T Y O) {n : List UInt8} {i : Nat} {e : AtE} (hf : findY n Y 0 = some (i, e)) (r : List UInt8) :
    StayJ ((S.set e.t (.tok 1 (e.l.length + 1))).set am (.map ((atM Y).set i (.d (.str n), .own e.t (recsE e.l ++ [[.slice (bcs r)]]))))) id am T (Y.set i ⟨n, e.l ++ [r], e.t⟩) O := by
  obtain ⟨j, e1, h1, h2⟩ := findY_some hf
  rw [Nat.zero_add] at e1; subst e1
  have hm := List.mem_of_getElem? h1
  have ht := h.tok e hm
  have lt1 := lt_len ht
  have lm := lt_len h.map
  have ne : ∀ f ∈ Y, am ≠ f.t := fun f hf e => by have := h.map; rw [e, h.tok f hf] at this; cases this
  refine ⟨(h.top.set (h.own.2 e hm) _).set h.own.1 _, ?_, fun f hf => ?_, fun a b f g hf hg hab => ?_, h.own.1, fun f hf => ?_⟩
  · rw [List.getElem?_set_self (by simpa using lm)]
    simp [atM, List.map_set, recsE]
  · rcases set_ne_mem hf with rfl | ⟨k, hk, hf'⟩
    · rw [List.getElem?_set_ne (ne e hm), List.getElem?_set_self lt1]; simp
    · have := h.sep i k e f h1 hf' (Ne.symm hk)
      rw [List.getElem?_set_ne (ne f (List.mem_of_getElem? hf')), List.getElem?_set_ne this]
      exact h.tok f (List.mem_of_getElem? hf')
  · have key : ∀ (c : Nat) (s : AtE), (Y.set i ⟨n, e.l ++ [r], e.t⟩)[c]? = some s → ∃ s', Y[c]? = some s' ∧ s'.t = s.t := fun c s hc => by
      rw [List.getElem?_set] at hc
      split at hc
      · rename_i e2
        subst e2
        split at hc
        · cases hc; exact ⟨e, h1, rfl⟩
        · cases hc
      · exact ⟨s, hc, rfl⟩
    obtain ⟨f', g1, g2⟩ := key a f hf
    obtain ⟨g', g3, g4⟩ := key b g hg
    rw [← g2, ← g4]
    exact h.sep a b f' g' g1 g3 hab
  · rcases set_ne_mem hf with rfl | ⟨k, hk, hf'⟩
    · exact h.own.2 e hm
    · exact h.own.2 f (List.mem_of_getElem? hf')
theorem StayJ.first (h : StayJ S id am T Y O) {n : List UInt8} (r : List UInt8) :
    StayJ (S.set am (.map (atM Y ++ [(.d (.str n), .own S.length [[.slice (bcs r)]])])) ++ [.tok 1 1]) id am T (Y ++ [⟨n, [r], S.length⟩]) O := by
  have lm := lt_len h.map
  have ne : ∀ f ∈ Y, am ≠ f.t := fun f hf e => by have := h.map; rw [e, h.tok f hf] at this; cases this
  refine ⟨(h.top.set h.own.1 _).app _, ?_, fun f hf => ?_, fun a b f g hf hg hab => ?_, h.own.1, fun f hf => ?_⟩
  · refine get_left ?_
    rw [List.getElem?_set_self lm]; simp [atM, recsE]
  · rcases List.mem_append.1 hf with hf | hf
    · refine get_left ?_
      rw [List.getElem?_set_ne (ne f hf)]; exact h.tok f hf
    · simp at hf; subst hf
      rw [List.getElem?_append_right (by simp)]; simp
  · have old : ∀ q ∈ Y, q.t < S.length := fun q hq => lt_len (h.tok q hq)
    rw [List.getElem?_append] at hf hg
    split at hf
    · split at hg
      · exact h.sep a b f g hf hg hab
      · have h5 := List.mem_of_getElem? hg
        simp at h5; subst h5
        have := old f (List.mem_of_getElem? hf)
        simp only; omega
    · have h4 := List.mem_of_getElem? hf
      have h6 := (List.getElem?_eq_some_iff.1 hf).1
      simp at h4 h6; subst h4
      split at hg
      · have := old g (List.mem_of_getElem? hg)
        simp only; omega
      · have h5 := (List.getElem?_eq_some_iff.1 hg).1
        simp at h5; omega
  · rcases List.mem_append.1 hf with hf | hf
    · exact h.own.2 f hf
    · simp at hf; subst hf
      intro hj
      have := h.top.own_lt hj
      simp at this
end

theorem placeF_get (t : List UInt8) : ∀ (l : List (List UInt8)) (o : Int) (k : Nat) (r : List UInt8), l[k]? = some r → (placeF t o l)[k]? = some ⟨t, o + k, r⟩
  | [], _, _, _, h => by simp at h
  | a :: l, o, 0, r, h => by simp at h; subst h; simp [placeF]
  | a :: l, o, k + 1, r, h => by
    simp only [placeF, List.getElem?_cons_succ]
    rw [placeF_get t l (o + 1) k r (by simpa using h)]
    congr 2
    simp; omega
theorem c_eq07 {σ : List AObj} {a b : List UInt8} {K : AV → List AObj → Prop} (hK : K (.d (.bool (a == b))) σ) : ACall Try.prog n_l07_equal [.d (.slice (bcs a)), .d (.slice (bcs b))] σ K := by
  refine acE2 e_l07_equal fun hl => ?_
  simp only [S_l07_equal, iN, bT, bF, eN]
  refine gq11 ?_
  refine c_bytes_Equal ?_
  refine gq11 ?_
  refine finE hl ?_
  exact hK
def pars_TopicsStays : List (Bool × List Ty) := [(false, [.slice tyReq])]
theorem args_reqs {n : Nat} (hn : n ≤ 1048576) {ds : List D} {m : Nat} (hf : TFitsL [.slice tyReq] ds) (hb : bulkL ds + m ≤ n) : ∃ l : List TSigned, ds = [.slice (reqsE l)] ∧ l.length ≤ 2097152 ∧ ∀ x ∈ l, opSz x.op ≤ 20971520 := by
  obtain ⟨d, rfl, h1⟩ := one_of hf
  obtain ⟨l, rfl, _⟩ := dec_reqs h1
  obtain ⟨h2, h3⟩ := reqs_sz (b := l) (n := 1048576) (by simp only [bulkL, bulkD] at hb; omega) (by omega)
  exact ⟨l, rfl, h3, h2⟩
theorem opSz_parts {o : TOp} (h : opSz o ≤ 20971520) : o.topic.length ≤ 20971520 ∧ o.group.length ≤ 20971520 ∧ o.recs.length ≤ 20971520 ∧ ∀ r ∈ o.recs, r.length ≤ 20971520 := by
  have h1 : ∀ l : List (List UInt8), l.length ≤ (l.map fun r => r.length + 10).sum ∧ ∀ r ∈ l, r.length ≤ (l.map fun r => r.length + 10).sum := by
    intro l
    induction l with
    | nil => simp
    | cons a l ih =>
      simp only [List.map_cons, List.sum_cons, List.length_cons]
      refine ⟨by omega, fun r hr => ?_⟩
      rcases List.mem_cons.1 hr with rfl | hr
      · omega
      · have := ih.2 r hr; omega
  unfold opSz at h
  have h2 := h1 o.recs
  exact ⟨by omega, by omega, by omega, fun r hr => by have := h2.2 r hr; omega⟩
theorem gq16 {A P Q : Prop} (a : A) (h : Q) (e : A → Hd Q → P := by intro a h; (repeat' first | simp -dsimp only [↓cA_u, ↓acallL, ↓loopL, ↓bP_u, ↓gF_b, ↓gT_b, ↓gF_0, ↓gT_0, ↓gFm_b, ↓gTm_b, ↓gFm_0, ↓gTm_0, ↓fl_u, ↓nfl_u, ↓gFl_b, ↓gTl_b, ↓gFl_0, ↓gTl_0, ↓il_u, ↓cp_u, ↓orC_b, ↓anC_b, ↓z1_u, ↓z2_u, ↓m1_u, iN, bT, bF, eN, ↓binC, ↓unC, ↓condC_b, ↓guardC_T, ↓guardC_F, ↓guardC_0, ↓pickC_b, ↓lenC, ↓slcC, ↓convC, ↓boxC, ↓allocC, ↓loadC, ↓storeC, ↓nilC, ↓faddrC, ↓fieldC, ↓iaddrC, ↓idxSC, ↓idxAC, ↓extractC, ↓buildC, ↓mksliceC, ↓appendC, ↓isnilC, ↓maxC, ↓minC, ↓callvC, ↓mkmapC, ↓mgetC, ↓msetC, ↓mdelC, ↓headC_cons, ↓rangeC, ↓BBL_true, ↓BBL_false, ↓BBL_not, binA, intOp, strOp, unA, esOf, bnd, intV, cellsA, fillV, srcE, dm, dm1, consO, cellA, maxL, minL, keepO, Q0, Q1, Q2, Q3, Q4, Q5, len_app, get_app, get_app0, set_app, set_app0, Q6, Q7, Q8, Q9, Q10, Q11, Q12, Q13, Q14, Nat.reduceAdd, Q15, Int.reduceToNat, Q16, Q17, Q18, Q19, Q20, reduceIte, Q21, Q22, recsE_len, rep, splice, toDs, toD, chunks, Q23, Q24, Q25, Q26, Q27, Q28, Nat.reduceLeDiff, Q29, Nat.reduceSub, Q30, Q31, Q32, sc, Q33, Q34, Q35, Q36, Q37, Q26, Q38, Q39, n0gt, n1gt, n2gt, n0eq, n1eq0, n1eq, n2eq, n0ne, n1ne, n1ne0, n0ne1, i0ne, i0eq, Bool.not_true, Bool.not_false, List.length_map, reqD, a] | with_reducible refine andA ?_ | fail); exact h.go) : P := e a ⟨h⟩
theorem gq17 {A P Q : Prop} (a : A) (h : Q) (e : A → Hd Q → P := by intro a h; (repeat' first | simp -dsimp only [↓cA_u, ↓acallL, ↓loopL, ↓bP_u, ↓gF_b, ↓gT_b, ↓gF_0, ↓gT_0, ↓gFm_b, ↓gTm_b, ↓gFm_0, ↓gTm_0, ↓fl_u, ↓nfl_u, ↓gFl_b, ↓gTl_b, ↓gFl_0, ↓gTl_0, ↓il_u, ↓cp_u, ↓orC_b, ↓anC_b, ↓z1_u, ↓z2_u, ↓m1_u, iN, bT, bF, eN, ↓binC, ↓unC, ↓condC_b, ↓guardC_T, ↓guardC_F, ↓guardC_0, ↓pickC_b, ↓lenC, ↓slcC, ↓convC, ↓boxC, ↓allocC, ↓loadC, ↓storeC, ↓nilC, ↓faddrC, ↓fieldC, ↓iaddrC, ↓idxSC, ↓idxAC, ↓extractC, ↓buildC, ↓mksliceC, ↓appendC, ↓isnilC, ↓maxC, ↓minC, ↓callvC, ↓mkmapC, ↓mgetC, ↓msetC, ↓mdelC, ↓headC_cons, ↓rangeC, ↓BBL_true, ↓BBL_false, ↓BBL_not, binA, intOp, strOp, unA, esOf, bnd, intV, cellsA, fillV, srcE, dm, dm1, consO, cellA, maxL, minL, keepO, Q0, Q1, Q2, Q3, Q4, Q5, len_app, get_app, get_app0, set_app, set_app0, Q6, Q7, Q8, Q9, Q10, Q11, Q12, Q13, Q14, Nat.reduceAdd, Q15, Int.reduceToNat, Q16, Q17, Q18, Q19, Q20, reduceIte, Q21, Q22, recsE_len, rep, splice, toDs, toD, chunks, Q23, Q24, Q25, Q26, Q27, Q28, Nat.reduceLeDiff, Q29, Nat.reduceSub, Q30, Q31, Q32, sc, Q33, Q34, Q35, Q36, Q37, Q26, Q38, Q39, n0gt, n1gt, n2gt, n0eq, n1eq0, n1eq, n2eq, n0ne, n1ne, n1ne0, n0ne1, i0ne, i0eq, Bool.not_true, Bool.not_false, List.length_map, Option.map_none, entriesOf, keyFit, mgetR, placedD, a] | with_reducible refine andA ?_ | fail); exact h.go) : P := e a ⟨h⟩
theorem gq18 {A P Q : Prop} (a : A) (h : Q) (e : A → Hd Q → P := by intro a h; (repeat' first | simp -dsimp only [↓cA_u, ↓acallL, ↓loopL, ↓bP_u, ↓gF_b, ↓gT_b, ↓gF_0, ↓gT_0, ↓gFm_b, ↓gTm_b, ↓gFm_0, ↓gTm_0, ↓fl_u, ↓nfl_u, ↓gFl_b, ↓gTl_b, ↓gFl_0, ↓gTl_0, ↓il_u, ↓cp_u, ↓orC_b, ↓anC_b, ↓z1_u, ↓z2_u, ↓m1_u, iN, bT, bF, eN, ↓binC, ↓unC, ↓condC_b, ↓guardC_T, ↓guardC_F, ↓guardC_0, ↓pickC_b, ↓lenC, ↓slcC, ↓convC, ↓boxC, ↓allocC, ↓loadC, ↓storeC, ↓nilC, ↓faddrC, ↓fieldC, ↓iaddrC, ↓idxSC, ↓idxAC, ↓extractC, ↓buildC, ↓mksliceC, ↓appendC, ↓isnilC, ↓maxC, ↓minC, ↓callvC, ↓mkmapC, ↓mgetC, ↓msetC, ↓mdelC, ↓headC_cons, ↓rangeC, ↓BBL_true, ↓BBL_false, ↓BBL_not, binA, intOp, strOp, unA, esOf, bnd, intV, cellsA, fillV, srcE, dm, dm1, consO, cellA, maxL, minL, keepO, Q0, Q1, Q2, Q3, Q4, Q5, len_app, get_app, get_app0, set_app, set_app0, Q6, Q7, Q8, Q9, Q10, Q11, Q12, Q13, Q14, Nat.reduceAdd, Q15, Int.reduceToNat, Q16, Q17, Q18, Q19, Q20, reduceIte, Q21, Q22, recsE_len, rep, splice, toDs, toD, chunks, Q23, Q24, Q25, Q26, Q27, Q28, Nat.reduceLeDiff, Q29, Nat.reduceSub, Q30, Q31, Q32, sc, Q33, Q34, Q35, Q36, Q37, Q26, Q38, Q39, n0gt, n1gt, n2gt, n0eq, n1eq0, n1eq, n2eq, n0ne, n1ne, n1ne0, n0ne1, i0ne, i0eq, Bool.not_true, Bool.not_false, List.length_map, Option.map_some, entriesOf, keyFit, mgetR, placedD, a] | with_reducible refine andA ?_ | fail); exact h.go) : P := e a ⟨h⟩
theorem law_TopicsStays (xs : List AV) (n : Nat) (hn : n ≤ 1048576) (h : ArgsOk pars_TopicsStays xs n) : ACall Try.prog n_l07_TopicsStays xs [] fun r _ => r = .d (.bool true) := by
  obtain ⟨ds, xs1, m1, hf, hb1, rfl, rfl⟩ := h
  obtain ⟨l, rfl, hl1, hl2⟩ := args_reqs hn hf hb1
  show ACall Try.prog n_l07_TopicsStays [.d (.slice (reqsE l))] [] _
  clear hf hb1
  obtain ⟨σ, hσ⟩ : ∃ σ : List AObj, [] = σ := ⟨_, rfl⟩
  rw [hσ]
  refine acE1 e_l07_TopicsStays fun hl => ?_
  have fin : ∀ S, AW.Ends σ.length (fun r _ => r = .d (.bool true)) (some [.d (.bool true)]) S := fun S =>
    ends_take (by rw [← hσ]; rfl) (by simp [Low_d, dmT, dm, dm1, pack]) hl rfl
  have hll : (reqsE l).length = l.length := List.length_map ..
  simp only [S_l07_TopicsStays, iN, bT, bF, eN, zl0]
  refine c_live07 ?_
  refine gq11 ?_
  refine c_tpNew fun hT => ?_
  refine gq12 hll ?_
  obtain ⟨O0, hO0⟩ : ∃ O0 : Nat → Prop, (fun j => j = σ.length + 1 ∨ j = σ.length) = O0 := ⟨_, rfl⟩
  rw [hO0] at hT
  have nO : ¬ O0 (σ.length + 2) := by rw [← hO0]; omega
  have hJ0 : StayJ (σ ++ [AObj.map [], AObj.box (AV.map σ.length :: lastC noTops.last), AObj.map []]) (σ.length + 1) (σ.length + 2) noTops [] O0 := by
    have := hT.app [AObj.map []]
    rw [List.append_assoc] at this
    exact ⟨this, by rw [get_app]; rfl, by simp, by simp, nO, by simp⟩
  obtain ⟨S0, hS0⟩ : ∃ S0, σ ++ [AObj.map [], AObj.box (AV.map σ.length :: lastC noTops.last), AObj.map []] = S0 := ⟨_, rfl⟩
  obtain ⟨id, hid⟩ : ∃ id, σ.length + 1 = id := ⟨_, rfl⟩
  obtain ⟨am, ham⟩ : ∃ am, σ.length + 2 = am := ⟨_, rfl⟩
  have e2 : (σ ++ [AObj.map [], AObj.box (AV.map σ.length :: lastC noTops.last)]).length = σ.length + 2 := by simp
  rw [hid, ham, hS0] at hJ0
  rw [e2, hS0, hid, ham]
  refine loopC_count l.length (fun k vs S => vs = [.d (.int .i64 k)] ∧ ∃ T Y O, StayJ S id am T Y O ∧ TopsI T ∧ PlL T.l Y ∧ ∀ e ∈ Y, e.l.length ≤ 64 * k) ⟨rfl, noTops, [], O0, hJ0, .none, ⟨by simp [noTops], fun n _ => rfl⟩, by simp⟩ ?_
  rintro k vs S hk ⟨rfl, T, Y, O, hJ, hI, hPl, hsz⟩
  by_cases hlt : k < l.length
  · have hd : decide ((k : Int) < (l.length : Int)) = true := by simp; omega
    have hx : l[k]? = some l[k] := by simp [hlt]
    have hxo := hl2 _ (List.getElem_mem hlt)
    have hgx := map_get (f := reqD) hx
    obtain ⟨x, hxe⟩ : ∃ x, l[k] = x := ⟨_, rfl⟩
    rw [hxe] at hx hgx hxo
    obtain ⟨z1, z2, z3, z4⟩ := opSz_parts hxo
    refine gq16 (gqc0 hd (gqc0 hgx hll)) ?_
    obtain ⟨B, hB⟩ : ∃ B, AObj.box [.d (.int .i64 x.client), .d (.int .i64 x.time), .d (.int .i64 x.op.kind), .d (.str x.op.topic), .d (.str x.op.group), .d (.int .i64 x.op.offset), .d (.slice (recsE x.op.recs))] = B := ⟨_, rfl⟩
    rw [hB]
    have hJ1 := hJ.app [B]
    refine c_tpApply (c := x.client) (tm := x.time) (o := x.op) hJ1.top hI (by omega) (by omega) (by omega) (fun r hr => by have := z4 r hr; omega) fun S1 hS1 => ?_
    obtain ⟨m, X, hP, hR, hO⟩ := hJ.top
    have hst := apply_step hPl hR.sort x.client x.time x.op
    have hap := applyP hI x.client x.time x.op
    have hI' := applyI hI x.client x.time x.op
    obtain ⟨D, hD⟩ : ∃ D, applyF T x.client x.time x.op = D := ⟨_, rfl⟩
    rw [hD] at hst hap hS1 hI' ⊢
    obtain ⟨O', hJ2, hSt, hO'⟩ := hJ1.after hS1
    have gB : S1[S.length]? = some B := hSt.at_ (by rw [get_app0]; rfl) fun h => by have := hJ.top.own_lt h; omega
    obtain ⟨nm, rs, hP1, hP2⟩ := hst
    have hrs : rs.length ≤ 64 := by have := hap.2; rw [hP1, placeF_len] at this; exact this
    rw [hP1]
    have hpl : (placedE (placeF nm (getY nm Y).length rs)).length = rs.length := by rw [List.length_map, placeF_len]
    have hgz0 : ∀ (z : Nat) r, rs[z]? = some r → (placedE (placeF nm (getY nm Y).length rs))[z]? = some (placedD ⟨nm, (getY nm Y).length + z, r⟩) := fun z r hr => map_get (placeF_get nm rs _ z r hr)
    obtain ⟨PP, hPP⟩ : ∃ PP, placedE (placeF nm (getY nm Y).length rs) = PP := ⟨_, rfl⟩
    obtain ⟨o0, ho0⟩ : ∃ o0, (getY nm Y).length = o0 := ⟨_, rfl⟩
    rw [hPP] at hpl hgz0 ⊢
    rw [ho0] at hgz0
    refine gq12 hpl ?_
    refine loopC_count rs.length (fun z vs s => vs = [.d (.int .i64 z)] ∧ ∃ Y2, StayJ s id am D.2.2.2 Y2 O' ∧ s[S.length]? = some B ∧ (∀ n, getY n Y2 = if n = nm then getY n Y ++ rs.take z else getY n Y) ∧ ∀ e ∈ Y2, e.l.length ≤ 64 * k + z)
      ⟨rfl, Y, hJ2.app _, get_left gB, fun n => by split <;> simp, hsz⟩ ?_
    rintro z vs s hz ⟨rfl, Y2, hJ3, gB3, hY2, hsz2⟩
    have hBam : am ≠ S.length := fun h => by have h1 := hJ3.map; rw [h, gB3, ← hB] at h1; cases h1
    by_cases hltz : z < rs.length
    · have hd2 : decide ((z : Int) < (rs.length : Int)) = true := by simp; omega
      obtain ⟨r, hr⟩ : ∃ r, rs[z]? = some r := ⟨_, List.getElem?_eq_getElem hltz⟩
      have hgz := hgz0 z r hr
      have htk : rs.take (z + 1) = rs.take z ++ [r] := by rw [List.take_add_one, hr]; rfl
      have hlY : (getY nm Y2).length = o0 + z := by rw [hY2, if_pos rfl, List.length_append, ho0, List.length_take, Nat.min_eq_left hz]
      have hmf := mfind_atM nm Y2 0
      have hm3 : ∀ τ, (s ++ τ)[am]? = _ := fun τ => get_left hJ3.map
      have c3 : ∀ a τ, (s ++ a :: τ)[s.length]? = some a := fun a τ => get_app0 ..
      cases hf : findY nm Y2 0 with
      | none =>
        rw [hf] at hmf
        have hg0 : getY nm Y2 = [] := by rw [getY, hf]
        have e0 : o0 = 0 ∧ z = 0 := by rw [hg0] at hlY; simp at hlY; omega
        have hne : ((o0 : Int) + (z : Int) != ((0 : Nat) : Int)) = false := by rw [e0.1, e0.2]; rfl
        have hne' : ((o0 : Int) + (z : Int) != 0) = false := by rw [e0.1, e0.2]; rfl
        refine gq17 (gqc0 hd2 (gqc0 hpl (gqc0 hgz (gqc0 hm3 (gqc0 c3 (gqc0 hmf (gqc0 hne (gqc0 hne' (wkc z (by omega)))))))))) ?_
        have hJ4 := (hJ3.app [.box [.d (.str nm), .d (.int .i64 ((o0 : Int) + z)), .d (.slice (bcs r))]]).first (n := nm) r
        rw [← List.set_append_left _ _ (by have := lt_len hJ3.map; simp; omega), List.append_assoc, List.length_append] at hJ4
        refine Again.next hltz ⟨rfl, _, hJ4, ?_, fun n => ?_, fun e he => ?_⟩
        · rw [List.getElem?_set_ne hBam]
          exact get_left gB3
        · rw [getY_new hf, htk]
          by_cases e : n = nm
          · subst e
            have : getY n Y = [] := List.length_eq_zero_iff.1 (by omega)
            simp [this, e0.2]
          · rw [if_neg e, if_neg e, hY2, if_neg e]
        · rcases List.mem_append.1 he with he | he
          · have := hsz2 e he; omega
          · simp at he; subst he; simp; omega
      | some q =>
        obtain ⟨i, e⟩ := q
        rw [hf] at hmf
        have hg0 : getY nm Y2 = e.l := by rw [getY, hf]
        obtain ⟨j, e1, h1, h2⟩ := findY_some hf
        rw [Nat.zero_add] at e1; subst e1
        have hem := List.mem_of_getElem? h1
        have hes := hsz2 e hem
        have hne : ((o0 : Int) + (z : Int) != (e.l.length : Int)) = false := by rw [hg0] at hlY; simp; omega
        have ht3 : ∀ τ, (s ++ τ)[e.t]? = _ := fun τ => get_left (hJ3.tok e hem)
        refine gq18 (gqc0 hd2 (gqc0 hpl (gqc0 hgz (gqc0 hm3 (gqc0 c3 (gqc0 hmf (gqc0 hne ht3))))))) ?_
        have let_ := lt_len (hJ3.tok e hem)
        have nam : am ≠ e.t := fun h => by have h1 := hJ3.map; rw [h, hJ3.tok e hem] at h1; cases h1
        have x1 : ∀ X τ a, ((s ++ a :: τ).set e.t X)[s.length]? = some a := fun X τ a => by rw [List.getElem?_set_ne (by omega)]; exact get_app0 ..
        have x2 : ∀ X τ, ((s ++ τ).set e.t X)[am]? = some (.map (atM Y2)) := fun X τ => by rw [List.getElem?_set_ne (Ne.symm nam)]; exact hm3 τ
        refine gq12 (gqc0 x1 (gqc0 x2 (gqc0 hmf (wkc z (by omega))))) ?_
        have hJ4 := (hJ3.app [.box [.d (.str nm), .d (.int .i64 ((o0 : Int) + z)), .d (.slice (bcs r))]]).more hf r
        refine Again.next hltz ⟨rfl, _, hJ4, ?_, fun n => ?_, fun f he => ?_⟩
        · have hBt : e.t ≠ S.length := fun h => by have h1 := hJ3.tok e hem; rw [h, gB3, ← hB] at h1; cases h1
          rw [List.getElem?_set_ne hBam, List.getElem?_set_ne hBt]
          exact get_left gB3
        · rw [getY_set hf rfl, htk]
          by_cases e2 : n = nm
          · subst e2
            have := hY2 n
            rw [if_pos rfl, hg0] at this
            simp [this]
          · rw [if_neg e2, if_neg e2, hY2, if_neg e2]
        · rcases List.mem_or_eq_of_mem_set he with he | he
          · have := hsz2 f he; omega
          · subst he; simp; omega
    · have hzr : z = rs.length := by omega
      subst hzr
      rw [List.take_length] at hY2
      have hd2 : decide ((rs.length : Int) < (rs.length : Int)) = false := by simp
      have hPl' := hP2 Y2 hY2
      have hB3 : ∀ τ, (s ++ τ)[S.length]? = some (.box [.d (.int .i64 x.client), .d (.int .i64 x.time), .d (.int .i64 x.op.kind), .d (.str x.op.topic), .d (.str x.op.group), .d (.int .i64 x.op.offset), .d (.slice (recsE x.op.recs))]) := fun τ => by rw [hB]; exact get_left gB3
      have hB3' := hB3 []
      rw [List.append_nil] at hB3'
      refine gq12 (gqc0 hd2 (gqc0 hpl hB3')) ?_
      refine c_tpBounds (n := x.op.topic) hJ3.top hI' ?_
      have next : ∀ s2, StayJ s2 id am D.2.2.2 Y2 O' → Again l.length (fun k vs S => vs = [.d (.int .i64 k)] ∧ ∃ T Y O, StayJ S id am T Y O ∧ TopsI T ∧ PlL T.l Y ∧ ∀ e ∈ Y, e.l.length ≤ 64 * k) k [.d (.int .i64 ((k + 1 : Nat) : Int))] s2 := fun s2 h => Again.next hlt ⟨rfl, _, Y2, O', h, hI', hPl', fun e he => by have := hsz2 e he; omega⟩
      cases ha : atF x.op.topic D.2.2.2.l 0 with
      | none =>
        rw [show boundsF D.2.2.2 x.op.topic = (0, 0, 4) by rw [boundsF, ha]]
        refine gq12 (gqc0 (show ((4 : Int) != 0) = true from rfl) (wkc k (by omega))) ?_
        exact next _ hJ3
      | some i =>
        obtain ⟨j, y, e1, h1, h2⟩ := atF_some ha
        rw [Nat.zero_add] at e1; subst e1
        obtain ⟨q1, q2, q3⟩ := hPl'.1 y (List.mem_of_getElem? h1)
        rw [h2] at q1 q2
        have hyI := hI'.tops y (List.mem_of_getElem? h1)
        have hnx : y.next = y.base + y.recs.length := rfl
        have b1 := hyI.next; have b2 := hyI.recs
        rw [show boundsF D.2.2.2 x.op.topic = (y.base, y.next, 0) by rw [boundsF, ha]; simp only [h1]]
        have hmf := mfind_atM x.op.topic Y2 0
        have hm3 := hJ3.map
        have b0 : decide (y.base < 0) = false := by simp; omega
        have b3 : decide (y.base > y.next) = false := by simp; omega
        have hdec : ∀ (i : Nat), decide (y.base + (i : Int) < y.next) = decide (i < y.recs.length) := fun i => by
          by_cases h : i < y.recs.length
          · simp only [h, decide_true, decide_eq_true_eq]; omega
          · simp only [h, decide_false, decide_eq_false_iff_not]; omega
        have hz0 : ((0 : Int) != 0) = false := rfl
        cases hf : findY x.op.topic Y2 0 with
        | none =>
          rw [hf] at hmf
          have hg0 : getY x.op.topic Y2 = [] := by rw [getY, hf]
          have c1 : (y.next != ((0 : Nat) : Int)) = false := by rw [hg0] at q1; simp at q1 ⊢; omega
          refine gq13 (gqc0 hz0 (gqc0 hB3' (gqc0 hm3 (gqc0 hmf (gqc0 c1 (gqc0 b0 b3)))))) ?_
          refine loopC_count y.recs.length (fun i vs s' => vs = [.d (.int .i64 (y.base + i))] ∧ s' = s) ?_ ?_
          · exact ⟨by simp, rfl⟩
          rintro i vs s' hi ⟨rfl, rfl⟩
          have hr0 : y.recs.length = 0 := by rw [hg0] at q1; simp at q1; omega
          have hd3 : decide (y.base + (i : Int) < y.next) = false := by rw [hdec]; simp; omega
          refine gq12 (gqc0 hd3 (wkc k (by omega))) ?_
          exact next _ hJ3
        | some q =>
          obtain ⟨i0, e⟩ := q
          rw [hf] at hmf
          have hg0 : getY x.op.topic Y2 = e.l := by rw [getY, hf]
          rw [hg0] at q1 q2
          have c1 : (y.next != (e.l.length : Int)) = false := by simp; omega
          refine gq13 (gqc0 hz0 (gqc0 hB3' (gqc0 hm3 (gqc0 hmf (gqc0 c1 (gqc0 b0 b3)))))) ?_
          refine loopC_count y.recs.length (fun i vs s' => vs = [.d (.int .i64 (y.base + i))] ∧ s' = s) ?_ ?_
          · exact ⟨by simp, rfl⟩
          rintro i vs s' hi ⟨rfl, rfl⟩
          have hd3 := hdec i
          by_cases hlti : i < y.recs.length
          · obtain ⟨r, hr⟩ : ∃ r, y.recs[i]? = some r := ⟨_, List.getElem?_eq_getElem hlti⟩
            have hget : getF D.2.2.2 x.op.topic (y.base + i) = (r, 0) := by
              rw [getF, ha]
              simp only [h1]
              rw [if_neg (by omega), show (y.base + (i : Int) - y.base).toNat = i by omega, List.getD_eq_getElem?_getD, hr]; rfl
            have hge : (recsE e.l)[(y.base + (i : Int)).toNat]? = some [.slice (bcs r)] := by
              refine map_get ?_
              rw [show (y.base + (i : Int)).toNat = y.base.toNat + i by omega, ← List.getElem?_drop, q2, hr]
            have w1 : IntKind.i64.wrap (y.base + (i : Int) + 1) = y.base + ((i + 1 : Nat) : Int) := by rw [wrap64i (by omega) (by omega)]; omega
            have hp0 : decide (0 ≤ y.base + (i : Int)) = true := by simp; omega
            simp only [hlti, decide_true] at hd3
            refine gq12 (gqc0 hd3 hB3') ?_
            refine c_tpGet hJ3.top hI' ?_
            rw [hget]
            refine gq13 (gqc0 hz0 (gqc0 hB3' (gqc0 hm3 (gqc0 hmf hge)))) ?_
            refine c_eq07 ?_
            rw [beq_self_eq_true]
            refine gq12 w1 ?_
            exact Again.next hlti ⟨rfl, rfl⟩
          · simp only [hlti, decide_false] at hd3
            refine gq12 (gqc0 hd3 (wkc k (by omega))) ?_
            exact next _ hJ3
  · have hd : decide ((k : Int) < (l.length : Int)) = false := by simp; omega
    refine gq12 hd ?_
    exact fin _
end Go.Proofs.Ytaocmalhjfakdaa
