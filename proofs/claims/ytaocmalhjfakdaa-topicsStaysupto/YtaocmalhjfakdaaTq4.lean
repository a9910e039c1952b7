/- Contracts: the program's topics: records are published. -/
import Derived.Test.YtaocmalhjfakdaaTq3
set_option linter.all false
set_option maxRecDepth 100000
set_option linter.unusedSimpArgs false
set_option linter.unusedVariables false
namespace Go.Proofs.Ytaocmalhjfakdaa
open Go.AW

section
variable {σ : List AObj} {id m : Nat} {X : List PTop} {T : TTops} {O : Nat → Prop} {K : AV → List AObj → Prop}
def withRecs (x : TTopic) (l : List (List UInt8)) : TTopic := ⟨x.name, x.base, l, x.groups⟩
def pubF (T : TTops) (o : TOp) : TRes × List TPlaced × TTops := match atF o.topic T.l 0 with
  | none => ((4, 0), [], T)
  | some i => match T.l[i]? with
    | none => ((4, 0), [], T)
    | some x => publishF T i x o
structure PubJ (σ : List AObj) (p : PTop) (A B : AObj) (x : TTopic) (S : List AObj) : Prop where
  len : S.length = σ.length + 2
  b : S[p.id]? = some (topB' x p.t p.g)
  t : S[p.t]? = some (.tok 1 x.recs.length)
  g : S[p.g]? = σ[p.g]?
  a : S[σ.length]? = some A
  k : S[σ.length + 1]? = some B
  rest : ∀ j, j < σ.length → j ≠ p.id → j ≠ p.t → S[j]? = σ[j]?
theorem gq14 {A P Q : Prop} (a : A) (h : Q) (e : A → Hd Q → P := by intro a h; (repeat' first | simp -dsimp only [↓cA_u, ↓acallL, ↓loopL, ↓bP_u, ↓gF_b, ↓gT_b, ↓gF_0, ↓gT_0, ↓gFm_b, ↓gTm_b, ↓gFm_0, ↓gTm_0, ↓fl_u, ↓nfl_u, ↓gFl_b, ↓gTl_b, ↓gFl_0, ↓gTl_0, ↓il_u, ↓cp_u, ↓orC_b, ↓anC_b, ↓z1_u, ↓z2_u, ↓m1_u, iN, bT, bF, eN, ↓binC, ↓unC, ↓condC_b, ↓guardC_T, ↓guardC_F, ↓guardC_0, ↓pickC_b, ↓lenC, ↓slcC, ↓convC, ↓boxC, ↓allocC, ↓loadC, ↓storeC, ↓nilC, ↓faddrC, ↓fieldC, ↓iaddrC, ↓idxSC, ↓idxAC, ↓extractC, ↓buildC, ↓mksliceC, ↓appendC, ↓isnilC, ↓maxC, ↓minC, ↓callvC, ↓mkmapC, ↓mgetC, ↓msetC, ↓mdelC, ↓headC_cons, ↓rangeC, ↓BBL_true, ↓BBL_false, ↓BBL_not, binA, intOp, strOp, unA, esOf, bnd, intV, cellsA, fillV, srcE, dm, dm1, consO, cellA, maxL, minL, keepO, Q0, Q1, Q2, Q3, Q4, Q5, len_app, get_app, get_app0, set_app, set_app0, Q6, Q7, Q8, Q9, Q10, Q11, Q12, Q13, Q14, Nat.reduceAdd, Q15, Int.reduceToNat, Q16, Q17, Q18, Q19, Q20, reduceIte, Q21, Q22, recsE_len, rep, splice, toDs, toD, chunks, Q23, Q24, Q25, Q26, Q27, Q28, Nat.reduceLeDiff, Q29, Nat.reduceSub, Q30, Q31, Q32, sc, Q33, Q34, Q35, Q36, Q37, Q26, Q38, Q39, n0gt, n1gt, n2gt, n0eq, n1eq0, n1eq, n2eq, n0ne, n1ne, n1ne0, n0ne1, i0ne, i0eq, Bool.not_true, Bool.not_false, List.length_map, recsE_one, a] | with_reducible refine andA ?_ | fail); exact h.go) : P := e a ⟨h⟩
theorem c_tpPublish {o : TOp} (h : TpAt σ id T O) (hI : TopsI T) (ho : o.recs.length ≤ 20971520) (hr : ∀ r ∈ o.recs, r.length ≤ 1073741824)
    (hK : ∀ S, After σ id (pubF T o).2.2 O S → K (.tup [.d (.int .i64 (pubF T o).1.2), .d (.slice (placedE (pubF T o).2.1)), .d (.int .i64 (pubF T o).1.1)]) S) : ACall Try.prog n_topics_Topics_publish [.box id 0, opA o] σ K := by
  have hT := h
  obtain ⟨m, X, hP, hR, hO⟩ := h
  refine acall_all e_topics_Topics_publish.is rfl fun hl _ => e_topics_Topics_publish.goes ?_
  have hb := hP.box
  have hm := hP.map
  have hb' : ∀ τ, (σ ++ τ)[id]? = _ := fun τ => get_left hb
  have hm' : ∀ τ, (σ ++ τ)[m]? = _ := fun τ => get_left hm
  have hf := mfind_topM o.topic X 0
  have hol := recsE_len o.recs
  have done : ∀ z, pubF T o = z → ∀ S, After σ id z.2.2 O S → K (.tup [.d (.int .i64 z.1.2), .d (.slice (placedE z.2.1)), .d (.int .i64 z.1.1)]) S := fun z h => h ▸ hK
  clear hK
  simp only [S_topics_Topics_publish, iN, bT, bF, eN, opA]
  cases hx : findX o.topic X 0 with
  | none =>
    have hF : pubF T o = ((4, 0), [], T) := by rw [pubF, hR.no hx]
    rw [hx] at hf
    refine gq13 (gqc0 hb' (gqc0 hm' hf)) ?_
    exact endsA (done _ hF _ (.same hT _))
  | some q =>
    obtain ⟨i, p⟩ := q
    obtain ⟨h1, h2, k, y, h3, h4, h5⟩ := hR.yes hx
    rw [hx] at hf
    have hy := hI.tops y (List.mem_of_getElem? h4)
    have hp := hP.tops p (List.mem_of_getElem? h1)
    have hpb : ∀ τ, (σ ++ τ)[p.id]? = _ := fun τ => get_left hp.b
    have hn := next_eq h5 hy
    have hlen := recsE_len p.x.recs
    have hnx : p.x.next = p.x.base + p.x.recs.length := rfl
    have b0 : 0 ≤ p.x.base := by rw [h5.base]; exact hy.base
    have b1 : p.x.next ≤ 9007199254740992 := by rw [h5.next]; exact hy.next
    have b2 : p.x.recs.length ≤ 64 := by rw [h5.recs]; exact hy.recs
    have hF : pubF T o = publishF T k y o := by rw [pubF, h3]; simp only [h4]
    have w1 : IntKind.i64.wrap ((p.x.recs.length : Int) + (o.recs.length : Int)) = (p.x.recs.length : Int) + o.recs.length := wrap64i (by omega) (by omega)
    have w2 : IntKind.i64.wrap (p.x.next + (o.recs.length : Int)) = p.x.next + (o.recs.length : Int) := wrap64i (by omega) (by omega)
    have hyr : y.recs.length = p.x.recs.length := by rw [h5.recs]
    have hyn : y.next = p.x.next := h5.next.symm
    cases c1 : decide ((p.x.recs.length : Int) + (o.recs.length : Int) > 64)
    rotate_left
    · have e1 : (p.x.recs.length : Int) + (o.recs.length : Int) > 64 := by simpa using c1
      have hF' : pubF T o = ((71, 0), [], T) := by rw [hF, publishF, if_pos (.inl (by omega))]
      refine gq13 (gqc0 hb' (gqc0 hm' (gqc0 hf (gqc0 hpb (gqc0 hlen (gqc0 hol (gqc0 w1 c1))))))) ?_
      exact endsA (done _ hF' _ (.same hT _))
    · have e1 : ¬ (p.x.recs.length : Int) + (o.recs.length : Int) > 64 := by simpa using c1
      refine gq13 (gqc0 hb' (gqc0 hm' (gqc0 hf (gqc0 hpb (gqc0 hlen (gqc0 hol (gqc0 w1 c1))))))) ?_
      refine c_tpNext (hpb _) hn ?_
      cases c2 : decide (p.x.next + (o.recs.length : Int) > 9007199254740992)
      rotate_left
      · have e2 : p.x.next + (o.recs.length : Int) > 9007199254740992 := by simpa using c2
        have hF' : pubF T o = ((71, 0), [], T) := by rw [hF, publishF, if_pos (.inr (by omega))]
        refine gq12 (gqc0 hol (gqc0 w2 c2)) ?_
        exact endsA (done _ hF' _ (.same hT _))
      · have e2 : ¬ p.x.next + (o.recs.length : Int) > 9007199254740992 := by simpa using c2
        refine gq12 (gqc0 hol (gqc0 w2 c2)) ?_
        refine c_tpNext (hpb _) hn ?_
        refine gq12 hol ?_
        obtain ⟨A, hA⟩ : ∃ A, AObj.box [.d (.int .i64 o.kind), .d (.str o.topic), .d (.str o.group), .d (.int .i64 o.offset), .d (.slice (recsE o.recs))] = A := ⟨_, rfl⟩
        rw [hA]
        simp only [mgetR, Bool.false_eq_true, if_false]
        have l1 := lt_len hp.b; have l2 := lt_len hp.g; have l3 := lt_len hp.t
        have hpm := List.mem_of_getElem? h1
        have hne := hP.ne hpm hpm
        have ng : p.g ≠ p.id := Ne.symm hne.2.1
        have nt : p.id ≠ p.t := hne.2.2.1
        have ngt : p.g ≠ p.t := hne.2.2.2.1
        refine loopC_countW o.recs.length (fun k vs S => vs = [.own (σ.length + 1) (placedE (placeF o.topic p.x.next (o.recs.take k))), .d (.int .i64 k)] ∧ PubJ σ p A (.tok 3 k) (withRecs p.x (p.x.recs ++ o.recs.take k)) S)
          (.tok 0 [] 3 rfl (by simp) (.refl _ _)) ⟨by simp [placeF], ⟨by simp, (by simp only [withRecs, List.take_zero, List.append_nil]; exact get_left (hpb _)), (by simp only [withRecs, List.take_zero, List.append_nil]; exact get_left (get_left hp.t)), by rw [List.getElem?_append_left (by simp; omega), List.getElem?_append_left l2], by rw [List.append_assoc, get_app0]; rfl, by rw [List.append_assoc, get_app]; rfl, fun j hj _ _ => by rw [List.append_assoc, List.getElem?_append_left hj]⟩⟩ ?_
        rintro k2 vs S hk ⟨rfl, hJ⟩
        obtain ⟨xx, hxx⟩ : ∃ xx, withRecs p.x (p.x.recs ++ o.recs.take k2) = xx := ⟨_, rfl⟩
        rw [hxx] at hJ
        have xb : xx.base = p.x.base := by rw [← hxx]; rfl
        have xr : xx.recs = p.x.recs ++ o.recs.take k2 := by rw [← hxx]; rfl
        have xl : xx.recs.length = p.x.recs.length + k2 := by rw [xr, List.length_append, List.length_take, Nat.min_eq_left hk]
        have xn : xx.next = p.x.next + k2 := by rw [TTopic.next, xl, xb]; omega
        have hlx := recsE_len xx.recs
        by_cases hlt : k2 < o.recs.length
        · have hd : decide ((k2 : Int) < (o.recs.length : Int)) = true := by simp; omega
          have hz : o.recs[k2]? = some o.recs[k2] := by simp [hlt]
          have hgz := recsE_get hz
          have hrz := hr _ (List.getElem_mem hlt)
          obtain ⟨z, hze⟩ : ∃ z, o.recs[k2] = z := ⟨_, rfl⟩
          rw [hze] at hz hgz hrz
          have htk : o.recs.take (k2 + 1) = o.recs.take k2 ++ [z] := by rw [List.take_add_one, hz]; rfl
          have ja := hJ.a; have jb := hJ.b; have jk := hJ.k; have jt := hJ.t; have jl := hJ.len
          rw [← hA] at ja
          have lb := lt_len jb; have lk := lt_len jk; have lt' := lt_len jt; have la := lt_len ja
          have sb : ∀ Y, (S.set (σ.length + 1) Y)[p.id]? = _ := fun Y => (List.getElem?_set_ne (by omega)).trans jb
          have st : ∀ Y, (S.set (σ.length + 1) Y)[p.t]? = _ := fun Y => (List.getElem?_set_ne (by omega)).trans jt
          have sb2 : ∀ Y Z, ((S.set (σ.length + 1) Y).set p.t Z)[p.id]? = _ := fun Y Z => (List.getElem?_set_ne (Ne.symm nt)).trans (sb Y)
          have hpl : (placedE (placeF o.topic p.x.next (o.recs.take k2))).length = k2 := by rw [List.length_map, placeF_len, List.length_take, Nat.min_eq_left hk]
          have lA3 : ∀ e ∈ placedE (placeF o.topic p.x.next (o.recs.take k2)), e.length = 3 := one_len (f := placedD) (fun _ => rfl) _
          refine gq12 (gqc0 hd (gqc0 hol (gqc0 hgz (gqc0 ja jb)))) ?_
          refine c_tpNext jb (by omega) ?_
          refine gq11 ?_
          refine c_clRec (by omega) ?_
          refine gq12 (gqc0 jk (gqc0 sb (gqc0 st (gqc0 hpl (gqc0 hlx xl))))) ?_
          refine c_clRec (by omega) ?_
          obtain ⟨x2, hx2⟩ : ∃ x2, withRecs p.x (p.x.recs ++ o.recs.take (k2 + 1)) = x2 := ⟨_, rfl⟩
          have y2 : x2.recs = xx.recs ++ [z] := by rw [← hx2, xr, htk, List.append_assoc]; rfl
          have y2r : recsE xx.recs ++ [[.slice (bcs z)]] = recsE x2.recs := by rw [y2]; simp [recsE]
          have y2l : p.x.recs.length + k2 + 1 = x2.recs.length := by rw [y2, List.length_append, xl]; rfl
          have y2g : placedE (placeF o.topic p.x.next (o.recs.take k2)) ++ [[.str o.topic, .int .i64 xx.next, .slice (bcs z)]] = placedE (placeF o.topic p.x.next (o.recs.take (k2 + 1))) := by
            rw [htk, placeF_snoc, List.length_take, Nat.min_eq_left hk, ← xn]; simp
          refine gq14 (gqc0 jk (gqc0 sb (gqc0 st (gqc0 sb2 (gqc0 hpl (gqc0 hlx (gqc0 xl (wkc k2 (by omega))))))))) ?_
          rw [y2g, y2r, show p.x.recs.length + (k2 + 1) = x2.recs.length by omega]
          refine Again.next hlt ⟨rfl, ?_⟩
          rw [hx2]
          have hx2b : x2.base = xx.base := by rw [← hx2, xb]; rfl
          refine ⟨by simp [jl], ?_, ?_, ?_, ?_, ?_, fun j hj e1 e2 => ?_⟩
          · rw [List.getElem?_set_self (by simpa using lb), ← hx2b]
          · rw [List.getElem?_set_ne nt, List.getElem?_set_self (by simpa using lt')]
          · rw [List.getElem?_set_ne (Ne.symm ng), List.getElem?_set_ne (Ne.symm ngt), List.getElem?_set_ne (by omega)]; exact hJ.g
          · rw [List.getElem?_set_ne (by omega), List.getElem?_set_ne (by omega), List.getElem?_set_ne (by omega)]; exact hJ.a
          · rw [List.getElem?_set_ne (by omega), List.getElem?_set_ne (by omega), List.getElem?_set_self lk]
          · rw [List.getElem?_set_ne (Ne.symm e1), List.getElem?_set_ne (Ne.symm e2), List.getElem?_set_ne (by omega)]; exact hJ.rest j hj e1 e2
        · have hd : decide ((k2 : Int) < (o.recs.length : Int)) = false := by simp; omega
          have hko : o.recs.take k2 = o.recs := List.take_of_length_le (by omega)
          rw [hko] at hxx xr ⊢
          have hF' : pubF T o = ((0, p.x.next), placeF o.topic p.x.next o.recs, { T with l := T.l.set k (withRecs y (y.recs ++ o.recs)) }) := by
            rw [hF, publishF, if_neg (by omega), hyn, show placeF y.name = placeF o.topic by rw [h5.name.symm.trans h2]]; rfl
          refine gq12 (gqc0 hd hol) ?_
          refine endsA (done _ hF' _ ⟨OwnP id m (X.set i ⟨xx, p.id, p.g, p.t⟩), ⟨m, _, hP.upd (p' := ⟨xx, p.id, p.g, p.t⟩) h1 (by rw [← hxx]; rfl) rfl rfl (.inl rfl) (fun j hj e1 e2 e3 => hJ.rest j (hP.own_lt hj) e1 e3) ⟨hJ.b, by rw [hJ.g, hp.g, ← hxx]; rfl, hJ.t⟩, hR.set h1 h4 h5 ?_ (by rw [← hxx]; rfl), fun j => Iff.rfl⟩, ⟨by rw [hJ.len]; omega, fun j hj hlt => hJ.rest j hlt (fun e => hj ((hO j).2 (.inr (.inr ⟨p, hpm, .inl e⟩)))) (fun e => hj ((hO j).2 (.inr (.inr ⟨p, hpm, .inr (.inr e)⟩))))⟩, fun j hj => ?_⟩)
          · rw [← hxx]
            exact ⟨h5.name, h5.base, by show p.x.recs ++ o.recs = y.recs ++ o.recs; rw [h5.recs], h5.gr⟩
          · rcases ownP_set (p' := ⟨xx, p.id, p.g, p.t⟩) h1 rfl rfl hj with hj | hj
            · exact .inl ((hO j).2 hj)
            · exact .inl ((hO j).2 (.inr (.inr ⟨p, hpm, .inr (.inr hj)⟩)))
end

end Go.Proofs.Ytaocmalhjfakdaa
