/- Contracts: the program's topics: records are published. -/
import Derived.Test.YtaocmalhjfakdaaTq2
set_option linter.all false
set_option maxRecDepth 100000
set_option linter.unusedSimpArgs false
set_option linter.unusedVariables false
namespace Go.Proofs.Ytaocmalhjfakdaa
open Go.AW

section
variable {σ : List zb} {id m : Nat} {X : List zcv} {T : zP} {O : Nat → Prop} {K : AV → List zb → Prop}
def zhc (x : zJ) (l : List (List UInt8)) : zJ := ⟨x.name, x.base, l, x.groups⟩
def zmo (T : zP) (o : TOp) : TRes × List zen × zP := match atF o.topic T.l 0 with
  | none => ((4, 0), [], T)
  | some i => match T.l[i]? with
    | none => ((4, 0), [], T)
    | some x => zbh T i x o
structure PubJ (σ : List zb) (p : zcv) (A B : zb) (x : zJ) (S : List zb) : Prop where
  len : S.length = σ.length + 2
  b : S[p.id]? = some (topB' x p.t p.g)
  t : S[p.t]? = some (.tok 1 x.recs.length)
  g : S[p.g]? = σ[p.g]?
  a : S[σ.length]? = some A
  k : S[σ.length + 1]? = some B
  rest : ∀ j, j < σ.length → j ≠ p.id → j ≠ p.t → S[j]? = σ[j]?
theorem gq25 {A P Q : Prop} (a : A) (h : Q) (e : A → Hd Q → P := by intro a h; (repeat' first | simp -dsimp only [↓zhT, ↓zbn, ↓zcK, ↓zhV, ↓zhN, ↓zhL, ↓zhO, ↓zhM, ↓zcQ, ↓zcM, ↓zcR, ↓zcN, ↓zhP, ↓zcI, ↓zcS, ↓zcO, ↓zcT, ↓zcP, ↓zhJ, ↓zhS, ↓zcH, ↓zcV, ↓zhC, ↓zhB, ↓zhI, iN, bT, bF, eN, ↓zeJ, ↓unC, ↓zap, ↓zR, ↓zS, ↓zY, ↓zaF, ↓zaY, ↓zdC, ↓zax, ↓zcY, ↓zae, ↓zk, ↓zi, ↓zcc, ↓zg, ↓zaq, ↓zt, ↓zbc, ↓zbk, ↓zf, ↓zA, ↓zw, ↓zx, ↓zaL, ↓zeU, ↓zeT, ↓zaM, ↓zbd, ↓zbg, ↓zbF, ↓zcj, ↓zC, ↓zay, ↓zT, ↓zF, ↓zaE, zeP, zcu, zco, unA, zfn, bnd, zfF, zai, zag, zfW, dm, dm1, zj, zaD, zgu, zgt, keepO, Q0, Q1, Q2, Q3, Q4, Q5, zao, zE, zl, zar, zW, Q6, Q7, Q8, Q9, Q10, Q11, Q12, Q13, Q14, Nat.reduceAdd, Q15, Int.reduceToNat, Q16, Q17, Q18, Q19, Q20, reduceIte, Q21, Q22, zn, rep, zX, zhD, toD, zaz, Q23, Q24, Q25, Q26, Q27, Q28, Nat.reduceLeDiff, Q29, Nat.reduceSub, Q30, Q31, Q32, sc, Q33, Q34, Q35, Q36, Q37, Q26, Q38, Q39, n0gt, n1gt, n2gt, n0eq, ziD, n1eq, n2eq, n0ne, n1ne, ziC, ziE, i0ne, i0eq, Bool.not_true, Bool.not_false, List.length_map, zfD, a] | with_reducible refine andA ?_ | fail); exact h.go) : P := e a ⟨h⟩
theorem c_tpPublish {o : TOp} (h : zdm σ id T O) (hI : zcF T) (ho : o.recs.length ≤ 20971520) (hr : ∀ r ∈ o.recs, r.length ≤ 1073741824)
    (hK : ∀ S, After σ id (zmo T o).2.2 O S → K (.tup [.d (.int .i64 (zmo T o).1.2), .d (.slice (zbj (zmo T o).2.1)), .d (.int .i64 (zmo T o).1.1)]) S) : zu Try.prog zbN [.box id 0, opA o] σ K := by
  have hT := h
  obtain ⟨m, X, hP, hR, hO⟩ := h
  refine zau zdv.is rfl fun hl _ => zdv.goes ?_
  have hb := hP.box
  have hm := hP.map
  have hb' : ∀ τ, (σ ++ τ)[id]? = _ := fun τ => ze hb
  have hm' : ∀ τ, (σ ++ τ)[m]? = _ := fun τ => ze hm
  have hf := zdh o.topic X 0
  have hol := zn o.recs
  have done : ∀ z, zmo T o = z → ∀ S, After σ id z.2.2 O S → K (.tup [.d (.int .i64 z.1.2), .d (.slice (zbj z.2.1)), .d (.int .i64 z.1.1)]) S := fun z h => h ▸ hK
  clear hK
  simp only [zdA, iN, bT, bF, eN, opA]
  cases hx : zem o.topic X 0 with
  | none =>
    have hF : zmo T o = ((4, 0), [], T) := by rw [zmo, hR.no hx]
    rw [hx] at hf
    refine zkH (zd hb' (zd hm' hf)) ?_
    exact zaR (done _ hF _ (.same hT _))
  | some q =>
    obtain ⟨i, p⟩ := q
    obtain ⟨h1, h2, k, y, h3, h4, h5⟩ := hR.yes hx
    rw [hx] at hf
    have hy := hI.tops y (List.mem_of_getElem? h4)
    have hp := hP.tops p (List.mem_of_getElem? h1)
    have hpb : ∀ τ, (σ ++ τ)[p.id]? = _ := fun τ => ze hp.b
    have hn := zks h5 hy
    have hlen := zn p.x.recs
    have hnx : p.x.next = p.x.base + p.x.recs.length := rfl
    have b0 : 0 ≤ p.x.base := by rw [h5.base]; exact hy.base
    have b1 : p.x.next ≤ 9007199254740992 := by rw [h5.next]; exact hy.next
    have b2 : p.x.recs.length ≤ 64 := by rw [h5.recs]; exact hy.recs
    have hF : zmo T o = zbh T k y o := by rw [zmo, h3]; simp only [h4]
    have w1 : IntKind.i64.wrap ((p.x.recs.length : Int) + (o.recs.length : Int)) = (p.x.recs.length : Int) + o.recs.length := zaO (by omega) (by omega)
    have w2 : IntKind.i64.wrap (p.x.next + (o.recs.length : Int)) = p.x.next + (o.recs.length : Int) := zaO (by omega) (by omega)
    have hyr : y.recs.length = p.x.recs.length := by rw [h5.recs]
    have hyn : y.next = p.x.next := h5.next.symm
    cases c1 : decide ((p.x.recs.length : Int) + (o.recs.length : Int) > 64)
    rotate_left
    · have e1 : (p.x.recs.length : Int) + (o.recs.length : Int) > 64 := by simpa using c1
      have hF' : zmo T o = ((71, 0), [], T) := by rw [hF, zbh, if_pos (.inl (by omega))]
      refine zkH (zd hb' (zd hm' (zd hf (zd hpb (zd hlen (zd hol (zd w1 c1))))))) ?_
      exact zaR (done _ hF' _ (.same hT _))
    · have e1 : ¬ (p.x.recs.length : Int) + (o.recs.length : Int) > 64 := by simpa using c1
      refine zkH (zd hb' (zd hm' (zd hf (zd hpb (zd hlen (zd hol (zd w1 c1))))))) ?_
      refine zeH (hpb _) hn ?_
      cases c2 : decide (p.x.next + (o.recs.length : Int) > 9007199254740992)
      rotate_left
      · have e2 : p.x.next + (o.recs.length : Int) > 9007199254740992 := by simpa using c2
        have hF' : zmo T o = ((71, 0), [], T) := by rw [hF, zbh, if_pos (.inr (by omega))]
        refine zV (zd hol (zd w2 c2)) ?_
        exact zaR (done _ hF' _ (.same hT _))
      · have e2 : ¬ p.x.next + (o.recs.length : Int) > 9007199254740992 := by simpa using c2
        refine zV (zd hol (zd w2 c2)) ?_
        refine zeH (hpb _) hn ?_
        refine zV hol ?_
        obtain ⟨A, hA⟩ : ∃ A, zb.box [.d (.int .i64 o.kind), .d (.str o.topic), .d (.str o.group), .d (.int .i64 o.offset), .d (.slice (zQ o.recs))] = A := ⟨_, rfl⟩
        rw [hA]
        simp only [zjR, Bool.false_eq_true, if_false]
        have l1 := zh hp.b; have l2 := zh hp.g; have l3 := zh hp.t
        have hpm := List.mem_of_getElem? h1
        have hne := hP.ne hpm hpm
        have ng : p.g ≠ p.id := Ne.symm hne.2.1
        have nt : p.id ≠ p.t := hne.2.2.1
        have ngt : p.g ≠ p.t := hne.2.2.2.1
        refine zcr o.recs.length (fun k vs S => vs = [.own (σ.length + 1) (zbj (zdg o.topic p.x.next (o.recs.take k))), .d (.int .i64 k)] ∧ PubJ σ p A (.tok 3 k) (zhc p.x (p.x.recs ++ o.recs.take k)) S)
          (.tok 0 [] 3 rfl (by simp) (.refl _ _)) ⟨by simp [zdg], ⟨by simp, (by simp only [zhc, List.take_zero, List.append_nil]; exact ze (hpb _)), (by simp only [zhc, List.take_zero, List.append_nil]; exact ze (ze hp.t)), by rw [List.getElem?_append_left (by simp; omega), List.getElem?_append_left l2], by rw [List.append_assoc, zl]; rfl, by rw [List.append_assoc, zE]; rfl, fun j hj _ _ => by rw [List.append_assoc, List.getElem?_append_left hj]⟩⟩ ?_
        rintro k2 vs S hk ⟨rfl, hJ⟩
        obtain ⟨xx, hxx⟩ : ∃ xx, zhc p.x (p.x.recs ++ o.recs.take k2) = xx := ⟨_, rfl⟩
        rw [hxx] at hJ
        have xb : xx.base = p.x.base := by rw [← hxx]; rfl
        have xr : xx.recs = p.x.recs ++ o.recs.take k2 := by rw [← hxx]; rfl
        have xl : xx.recs.length = p.x.recs.length + k2 := by rw [xr, List.length_append, List.length_take, Nat.min_eq_left hk]
        have xn : xx.next = p.x.next + k2 := by rw [zJ.next, xl, xb]; omega
        have hlx := zn xx.recs
        by_cases hlt : k2 < o.recs.length
        · have hd : decide ((k2 : Int) < (o.recs.length : Int)) = true := by simp; omega
          have hz : o.recs[k2]? = some o.recs[k2] := by simp [hlt]
          have hgz := zeR hz
          have hrz := hr _ (List.getElem_mem hlt)
          obtain ⟨z, hze⟩ : ∃ z, o.recs[k2] = z := ⟨_, rfl⟩
          rw [hze] at hz hgz hrz
          have htk : o.recs.take (k2 + 1) = o.recs.take k2 ++ [z] := by rw [List.take_add_one, hz]; rfl
          have ja := hJ.a; have jb := hJ.b; have jk := hJ.k; have jt := hJ.t; have jl := hJ.len
          rw [← hA] at ja
          have lb := zh jb; have lk := zh jk; have lt' := zh jt; have la := zh ja
          have sb : ∀ Y, (S.set (σ.length + 1) Y)[p.id]? = _ := fun Y => (List.getElem?_set_ne (by omega)).trans jb
          have st : ∀ Y, (S.set (σ.length + 1) Y)[p.t]? = _ := fun Y => (List.getElem?_set_ne (by omega)).trans jt
          have sb2 : ∀ Y Z, ((S.set (σ.length + 1) Y).set p.t Z)[p.id]? = _ := fun Y Z => (List.getElem?_set_ne (Ne.symm nt)).trans (sb Y)
          have hpl : (zbj (zdg o.topic p.x.next (o.recs.take k2))).length = k2 := by rw [List.length_map, zhi, List.length_take, Nat.min_eq_left hk]
          have lA3 : ∀ e ∈ zbj (zdg o.topic p.x.next (o.recs.take k2)), e.length = 3 := zmr (f := zja) (fun _ => rfl) _
          refine zV (zd hd (zd hol (zd hgz (zd ja jb)))) ?_
          refine zeH jb (by omega) ?_
          refine zbw ?_
          refine zkW (by omega) ?_
          refine zV (zd jk (zd sb (zd st (zd hpl (zd hlx xl))))) ?_
          refine zkW (by omega) ?_
          obtain ⟨x2, hx2⟩ : ∃ x2, zhc p.x (p.x.recs ++ o.recs.take (k2 + 1)) = x2 := ⟨_, rfl⟩
          have y2 : x2.recs = xx.recs ++ [z] := by rw [← hx2, xr, htk, List.append_assoc]; rfl
          have y2r : zQ xx.recs ++ [[.slice (bcs z)]] = zQ x2.recs := by rw [y2]; simp [zQ]
          have y2l : p.x.recs.length + k2 + 1 = x2.recs.length := by rw [y2, List.length_append, xl]; rfl
          have y2g : zbj (zdg o.topic p.x.next (o.recs.take k2)) ++ [[.str o.topic, .int .i64 xx.next, .slice (bcs z)]] = zbj (zdg o.topic p.x.next (o.recs.take (k2 + 1))) := by
            rw [htk, zhZ, List.length_take, Nat.min_eq_left hk, ← xn]; simp
          refine gq25 (zd jk (zd sb (zd st (zd sb2 (zd hpl (zd hlx (zd xl (wkc k2 (by omega))))))))) ?_
          rw [y2g, y2r, show p.x.recs.length + (k2 + 1) = x2.recs.length by omega]
          refine zca.next hlt ⟨rfl, ?_⟩
          rw [hx2]
          have hx2b : x2.base = xx.base := by rw [← hx2, xb]; rfl
          refine ⟨by simp [jl], ?_, ?_, ?_, ?_, ?_, fun j hj e1 e2 => ?_⟩
          · rw [List.getElem?_set_self (by simpa using lb), ← hx2b]
          · rw [List.getElem?_set_ne nt, List.getElem?_set_self (by simpa using lt')]
          · rw [List.getElem?_set_ne (Ne.symm ng), List.getElem?_set_ne (Ne.symm ngt), List.getElem?_set_ne (by omega)]; exact hJ.g
          · rw [List.getElem?_set_ne (by omega), List.getElem?_set_ne (by omega), List.getElem?_set_ne (by omega)]; exact hJ.a
          · rw [List.getElem?_set_ne (by omega), List.getElem?_set_ne (by omega), List.getElem?_set_self lk]
          · rw [List.getElem?_set_ne (Ne.symm e1), List.getElem?_set_ne (Ne.symm e2), List.getElem?_set_ne (by omega)]; exact hJ.rest j hj e1 e2
        · have hd : decide ((k2 : Int) < (o.recs.length : Int)) = false := by simp; omega
          have hko : o.recs.take k2 = o.recs := List.take_of_length_le (by omega)
          rw [hko] at hxx xr ⊢
          have hF' : zmo T o = ((0, p.x.next), zdg o.topic p.x.next o.recs, { T with l := T.l.set k (zhc y (y.recs ++ o.recs)) }) := by
            rw [hF, zbh, if_neg (by omega), hyn, show zdg y.name = zdg o.topic by rw [h5.name.symm.trans h2]]; rfl
          refine zV (zd hd hol) ?_
          refine zaR (done _ hF' _ ⟨OwnP id m (X.set i ⟨xx, p.id, p.g, p.t⟩), ⟨m, _, hP.upd (p' := ⟨xx, p.id, p.g, p.t⟩) h1 (by rw [← hxx]; rfl) rfl rfl (.inl rfl) (fun j hj e1 e2 e3 => hJ.rest j (hP.own_lt hj) e1 e3) ⟨hJ.b, by rw [hJ.g, hp.g, ← hxx]; rfl, hJ.t⟩, hR.set h1 h4 h5 ?_ (by rw [← hxx]; rfl), fun j => Iff.rfl⟩, ⟨by rw [hJ.len]; omega, fun j hj hlt => hJ.rest j hlt (fun e => hj ((hO j).2 (.inr (.inr ⟨p, hpm, .inl e⟩)))) (fun e => hj ((hO j).2 (.inr (.inr ⟨p, hpm, .inr (.inr e)⟩))))⟩, fun j hj => ?_⟩)
          · rw [← hxx]
            exact ⟨h5.name, h5.base, by show p.x.recs ++ o.recs = y.recs ++ o.recs; rw [h5.recs], h5.gr⟩
          · rcases zmq (p' := ⟨xx, p.id, p.g, p.t⟩) h1 rfl rfl hj with hj | hj
            · exact .inl ((hO j).2 hj)
            · exact .inl ((hO j).2 (.inr (.inr ⟨p, hpm, .inr (.inr hj)⟩)))
end

end Go.Proofs.Ytaocmalhjfakdaa
