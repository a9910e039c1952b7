/- Contracts: the program's topics: records are published. -/
import Derived.Test.YthpnelbciibjeaaTq2
set_option linter.all false
set_option maxRecDepth 100000
set_option linter.unusedSimpArgs false
set_option linter.unusedVariables false
namespace Go.Proofs.Ythpnelbciibjeaa
open Go.AW

section
variable {σ : List zc} {id m : Nat} {X : List zcH} {T : zaq} {O : Nat → Prop} {K : AV → List zc → Prop}
def zhx (x : zX) (l : List (List UInt8)) : zX := ⟨x.name, x.base, l, x.groups⟩
def znD (T : zaq) (o : TOp) : TRes × List zcy × zaq := match atF o.topic T.l 0 with
  | none => ((4, 0), [], T)
  | some i => match T.l[i]? with
    | none => ((4, 0), [], T)
    | some x => zdy T i x o
structure PubJ (σ : List zc) (p : zcH) (A B : zc) (x : zX) (S : List zc) : Prop where
  len : S.length = σ.length + 2
  b : S[p.id]? = some (topB' x p.t p.g)
  t : S[p.t]? = some (.tok 1 x.recs.length)
  g : S[p.g]? = σ[p.g]?
  a : S[σ.length]? = some A
  k : S[σ.length + 1]? = some B
  rest : ∀ j, j < σ.length → j ≠ p.id → j ≠ p.t → S[j]? = σ[j]?
theorem gq27 {A P Q : Prop} (a : A) (h : Q) (e : A → Hd Q → P := by intro a h; (repeat' first | simp -dsimp only [↓ziv, ↓zbi, ↓zcW, ↓zix, ↓zio, ↓zim, ↓ziq, ↓zin, ↓zdb, ↓zcX, ↓zdc, ↓zcY, ↓zir, ↓zcU, ↓zdd, ↓zcZ, ↓zde, ↓zda, ↓zil, ↓ziu, ↓zcS, ↓zdf, ↓zia, ↓zhZ, ↓zij, iN, bT, bF, eN, ↓zeU, ↓unC, ↓zah, ↓zR, ↓zS, ↓zad, ↓zaG, ↓zbl, ↓zea, ↓zaj, ↓zcA, ↓zau, ↓zu, ↓zo, ↓zcT, ↓zi, ↓zax, ↓zac, ↓zbm, ↓zbg, ↓zd, ↓zK, ↓zq, ↓zJ, ↓zaI, ↓zeE, ↓zfi, ↓zat, ↓zaW, ↓zaY, ↓zbC, ↓zck, ↓zG, ↓zaA, ↓zQ, ↓zF, ↓zaE, zfb, zcF, zcr, unA, zfm, bnd, zfY, zap, zaw, zfQ, dm, dm1, zA, zaT, zgP, zgO, zZ, Q0, Q1, Q2, Q3, Q4, Q5, zaD, zI, zr, zav, zW, Q6, Q7, Q8, Q9, Q10, Q11, Q12, Q13, Q14, Nat.reduceAdd, Q15, Int.reduceToNat, Q16, Q17, Q18, Q19, Q20, reduceIte, Q21, Q22, zD, rep, zT, zgN, toD, zan, Q23, Q24, Q25, Q26, Q27, Q28, Nat.reduceLeDiff, Q29, Nat.reduceSub, Q30, Q31, Q32, sc, Q33, Q34, Q35, Q36, Q37, Q26, Q38, Q39, n0gt, n1gt, n2gt, n0eq, zhd, n1eq, n2eq, n0ne, n1ne, zhc, zhe, i0ne, i0eq, Bool.not_true, Bool.not_false, List.length_map, zlu, a] | with_reducible refine andA ?_ | fail); exact h.go) : P := e a ⟨h⟩
theorem c_tpPublish {o : TOp} (h : zeB σ id T O) (hI : zdQ T) (ho : o.recs.length ≤ 20971520) (hr : ∀ r ∈ o.recs, r.length ≤ 1073741824)
    (hK : ∀ S, After σ id (znD T o).2.2 O S → K (.tup [.d (.int .i64 (znD T o).1.2), .d (.slice (zcK (znD T o).2.1)), .d (.int .i64 (znD T o).1.1)]) S) : zj Try.prog zbS [.box id 0, opA o] σ K := by
  have hT := h
  obtain ⟨m, X, hP, hR, hO⟩ := h
  refine zba zdG.is rfl fun hl _ => zdG.goes ?_
  have hb := hP.box
  have hm := hP.map
  have hb' : ∀ τ, (σ ++ τ)[id]? = _ := fun τ => zf hb
  have hm' : ∀ τ, (σ ++ τ)[m]? = _ := fun τ => zf hm
  have hf := zdr o.topic X 0
  have hol := zD o.recs
  have done : ∀ z, znD T o = z → ∀ S, After σ id z.2.2 O S → K (.tup [.d (.int .i64 z.1.2), .d (.slice (zcK z.2.1)), .d (.int .i64 z.1.1)]) S := fun z h => h ▸ hK
  clear hK
  simp only [zdL, iN, bT, bF, eN, opA]
  cases hx : zfl o.topic X 0 with
  | none =>
    have hF : znD T o = ((4, 0), [], T) := by rw [znD, hR.no hx]
    rw [hx] at hf
    refine gq3 (zg hb' (zg hm' hf)) ?_
    exact zbE (done _ hF _ (.same hT _))
  | some q =>
    obtain ⟨i, p⟩ := q
    obtain ⟨h1, h2, k, y, h3, h4, h5⟩ := hR.yes hx
    rw [hx] at hf
    have hy := hI.tops y (List.mem_of_getElem? h4)
    have hp := hP.tops p (List.mem_of_getElem? h1)
    have hpb : ∀ τ, (σ ++ τ)[p.id]? = _ := fun τ => zf hp.b
    have hn := next_eq h5 hy
    have hlen := zD p.x.recs
    have hnx : p.x.next = p.x.base + p.x.recs.length := rfl
    have b0 : 0 ≤ p.x.base := by rw [h5.base]; exact hy.base
    have b1 : p.x.next ≤ 9007199254740992 := by rw [h5.next]; exact hy.next
    have b2 : p.x.recs.length ≤ 64 := by rw [h5.recs]; exact hy.recs
    have hF : znD T o = zdy T k y o := by rw [znD, h3]; simp only [h4]
    have w1 : IntKind.i64.wrap ((p.x.recs.length : Int) + (o.recs.length : Int)) = (p.x.recs.length : Int) + o.recs.length := zbJ (by omega) (by omega)
    have w2 : IntKind.i64.wrap (p.x.next + (o.recs.length : Int)) = p.x.next + (o.recs.length : Int) := zbJ (by omega) (by omega)
    have hyr : y.recs.length = p.x.recs.length := by rw [h5.recs]
    have hyn : y.next = p.x.next := h5.next.symm
    cases c1 : decide ((p.x.recs.length : Int) + (o.recs.length : Int) > 64)
    rotate_left
    · have e1 : (p.x.recs.length : Int) + (o.recs.length : Int) > 64 := by simpa using c1
      have hF' : znD T o = ((71, 0), [], T) := by rw [hF, zdy, if_pos (.inl (by omega))]
      refine gq3 (zg hb' (zg hm' (zg hf (zg hpb (zg hlen (zg hol (zg w1 c1))))))) ?_
      exact zbE (done _ hF' _ (.same hT _))
    · have e1 : ¬ (p.x.recs.length : Int) + (o.recs.length : Int) > 64 := by simpa using c1
      refine gq3 (zg hb' (zg hm' (zg hf (zg hpb (zg hlen (zg hol (zg w1 c1))))))) ?_
      refine zhP (hpb _) hn ?_
      cases c2 : decide (p.x.next + (o.recs.length : Int) > 9007199254740992)
      rotate_left
      · have e2 : p.x.next + (o.recs.length : Int) > 9007199254740992 := by simpa using c2
        have hF' : znD T o = ((71, 0), [], T) := by rw [hF, zdy, if_pos (.inr (by omega))]
        refine gq2 (zg hol (zg w2 c2)) ?_
        exact zbE (done _ hF' _ (.same hT _))
      · have e2 : ¬ p.x.next + (o.recs.length : Int) > 9007199254740992 := by simpa using c2
        refine gq2 (zg hol (zg w2 c2)) ?_
        refine zhP (hpb _) hn ?_
        refine gq2 hol ?_
        obtain ⟨A, hA⟩ : ∃ A, zc.box [.d (.int .i64 o.kind), .d (.str o.topic), .d (.str o.group), .d (.int .i64 o.offset), .d (.slice (zbK o.recs))] = A := ⟨_, rfl⟩
        rw [hA]
        simp only [zkN, Bool.false_eq_true, if_false]
        have l1 := zl hp.b; have l2 := zl hp.g; have l3 := zl hp.t
        have hpm := List.mem_of_getElem? h1
        have hne := hP.ne hpm hpm
        have ng : p.g ≠ p.id := Ne.symm hne.2.1
        have nt : p.id ≠ p.t := hne.2.2.1
        have ngt : p.g ≠ p.t := hne.2.2.2.1
        refine zds o.recs.length (fun k vs S => vs = [.own (σ.length + 1) (zcK (zdz o.topic p.x.next (o.recs.take k))), .d (.int .i64 k)] ∧ PubJ σ p A (.tok 3 k) (zhx p.x (p.x.recs ++ o.recs.take k)) S)
          (.tok 0 [] 3 rfl (by simp) (.refl _ _)) ⟨by simp [zdz], ⟨by simp, (by simp only [zhx, List.take_zero, List.append_nil]; exact zf (hpb _)), (by simp only [zhx, List.take_zero, List.append_nil]; exact zf (zf hp.t)), by rw [List.getElem?_append_left (by simp; omega), List.getElem?_append_left l2], by rw [List.append_assoc, zr]; rfl, by rw [List.append_assoc, zI]; rfl, fun j hj _ _ => by rw [List.append_assoc, List.getElem?_append_left hj]⟩⟩ ?_
        rintro k2 vs S hk ⟨rfl, hJ⟩
        obtain ⟨xx, hxx⟩ : ∃ xx, zhx p.x (p.x.recs ++ o.recs.take k2) = xx := ⟨_, rfl⟩
        rw [hxx] at hJ
        have xb : xx.base = p.x.base := by rw [← hxx]; rfl
        have xr : xx.recs = p.x.recs ++ o.recs.take k2 := by rw [← hxx]; rfl
        have xl : xx.recs.length = p.x.recs.length + k2 := by rw [xr, List.length_append, List.length_take, Nat.min_eq_left hk]
        have xn : xx.next = p.x.next + k2 := by rw [zX.next, xl, xb]; omega
        have hlx := zD xx.recs
        by_cases hlt : k2 < o.recs.length
        · have hd : decide ((k2 : Int) < (o.recs.length : Int)) = true := by simp; omega
          have hz : o.recs[k2]? = some o.recs[k2] := by simp [hlt]
          have hgz := zgW hz
          have hrz := hr _ (List.getElem_mem hlt)
          obtain ⟨z, hze⟩ : ∃ z, o.recs[k2] = z := ⟨_, rfl⟩
          rw [hze] at hz hgz hrz
          have htk : o.recs.take (k2 + 1) = o.recs.take k2 ++ [z] := by rw [List.take_add_one, hz]; rfl
          have ja := hJ.a; have jb := hJ.b; have jk := hJ.k; have jt := hJ.t; have jl := hJ.len
          rw [← hA] at ja
          have lb := zl jb; have lk := zl jk; have lt' := zl jt; have la := zl ja
          have sb : ∀ Y, (S.set (σ.length + 1) Y)[p.id]? = _ := fun Y => (List.getElem?_set_ne (by omega)).trans jb
          have st : ∀ Y, (S.set (σ.length + 1) Y)[p.t]? = _ := fun Y => (List.getElem?_set_ne (by omega)).trans jt
          have sb2 : ∀ Y Z, ((S.set (σ.length + 1) Y).set p.t Z)[p.id]? = _ := fun Y Z => (List.getElem?_set_ne (Ne.symm nt)).trans (sb Y)
          have hpl : (zcK (zdz o.topic p.x.next (o.recs.take k2))).length = k2 := by rw [List.length_map, zjV, List.length_take, Nat.min_eq_left hk]
          have lA3 : ∀ e ∈ zcK (zdz o.topic p.x.next (o.recs.take k2)), e.length = 3 := one_len (f := placedD) (fun _ => rfl) _
          refine gq2 (zg hd (zg hol (zg hgz (zg ja jb)))) ?_
          refine zhP jb (by omega) ?_
          refine gq1 ?_
          refine zoj (by omega) ?_
          refine gq2 (zg jk (zg sb (zg st (zg hpl (zg hlx xl))))) ?_
          refine zoj (by omega) ?_
          obtain ⟨x2, hx2⟩ : ∃ x2, zhx p.x (p.x.recs ++ o.recs.take (k2 + 1)) = x2 := ⟨_, rfl⟩
          have y2 : x2.recs = xx.recs ++ [z] := by rw [← hx2, xr, htk, List.append_assoc]; rfl
          have y2r : zbK xx.recs ++ [[.slice (bcs z)]] = zbK x2.recs := by rw [y2]; simp [zbK]
          have y2l : p.x.recs.length + k2 + 1 = x2.recs.length := by rw [y2, List.length_append, xl]; rfl
          have y2g : zcK (zdz o.topic p.x.next (o.recs.take k2)) ++ [[.str o.topic, .int .i64 xx.next, .slice (bcs z)]] = zcK (zdz o.topic p.x.next (o.recs.take (k2 + 1))) := by
            rw [htk, zlv, List.length_take, Nat.min_eq_left hk, ← xn]; simp
          refine gq27 (zg jk (zg sb (zg st (zg sb2 (zg hpl (zg hlx (zg xl (wkc k2 (by omega))))))))) ?_
          rw [y2g, y2r, show p.x.recs.length + (k2 + 1) = x2.recs.length by omega]
          refine zcd.next hlt ⟨rfl, ?_⟩
          rw [hx2]
          have hx2b : x2.base = xx.base := by rw [← hx2, xb]; rfl
          refine ⟨by simp [jl], ?_, ?_, ?_, ?_, ?_, fun j hj e1 e2 => ?_⟩
          · rw [List.getElem?_set_self (by simpa using lb), ← hx2b]
          · rw [List.getElem?_set_ne nt, List.getElem?_set_self (by simpa using lt')]
          · rw [List.getElem?_set_ne (Ne.symm ng), List.getElem?_set_ne (Ne.symm ngt), List.getElem?_set_ne (by omega)]; exact hJ.g
          · rw [List.getElem?_set_ne (by omega), List.getElem?_set_ne (by omega), List.getElem?_set_ne (by omega)]; exact hJ.a
          · rw [List.getElem?_set_ne (by omega), List.getElem?_set_ne (by omega), List.getElem?_set_self lk]
          · rw [List.getElem?_set_ne (Ne.symm e1), List.getElem?_set_ne (Ne.symm e2), List.getElem?_set_ne (by omega)]; exact hJ.rest j hj e1 e2
        · have hd : decide ((k2 : Int) < (o.recs.length : Int)) = false := by simp; omega
          have hko : o.recs.take k2 = o.recs := List.take_of_length_le (by omega)
          rw [hko] at hxx xr ⊢
          have hF' : znD T o = ((0, p.x.next), zdz o.topic p.x.next o.recs, { T with l := T.l.set k (zhx y (y.recs ++ o.recs)) }) := by
            rw [hF, zdy, if_neg (by omega), hyn, show zdz y.name = zdz o.topic by rw [h5.name.symm.trans h2]]; rfl
          refine gq2 (zg hd hol) ?_
          refine zbE (done _ hF' _ ⟨OwnP id m (X.set i ⟨xx, p.id, p.g, p.t⟩), ⟨m, _, hP.upd (p' := ⟨xx, p.id, p.g, p.t⟩) h1 (by rw [← hxx]; rfl) rfl rfl (.inl rfl) (fun j hj e1 e2 e3 => hJ.rest j (hP.own_lt hj) e1 e3) ⟨hJ.b, by rw [hJ.g, hp.g, ← hxx]; rfl, hJ.t⟩, hR.set h1 h4 h5 ?_ (by rw [← hxx]; rfl), fun j => Iff.rfl⟩, ⟨by rw [hJ.len]; omega, fun j hj hlt => hJ.rest j hlt (fun e => hj ((hO j).2 (.inr (.inr ⟨p, hpm, .inl e⟩)))) (fun e => hj ((hO j).2 (.inr (.inr ⟨p, hpm, .inr (.inr e)⟩))))⟩, fun j hj => ?_⟩)
          · rw [← hxx]
            exact ⟨h5.name, h5.base, by show p.x.recs ++ o.recs = y.recs ++ o.recs; rw [h5.recs], h5.gr⟩
          · rcases znF (p' := ⟨xx, p.id, p.g, p.t⟩) h1 rfl rfl hj with hj | hj
            · exact .inl ((hO j).2 hj)
            · exact .inl ((hO j).2 (.inr (.inr ⟨p, hpm, .inr (.inr hj)⟩)))
end

end Go.Proofs.Ythpnelbciibjeaa
