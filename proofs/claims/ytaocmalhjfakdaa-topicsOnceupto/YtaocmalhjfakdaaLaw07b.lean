/- The law TopicsOnce, from the contracts. -/
import Derived.Test.YtaocmalhjfakdaaLaw07a
import Derived.Test.YtaocmalhjfakdaaKs4
import Derived.Test.YtaocmalhjfakdaaSpOnce
set_option linter.all false
set_option maxRecDepth 100000
set_option linter.unusedSimpArgs false
set_option linter.unusedVariables false
namespace Go.Proofs.Ytaocmalhjfakdaa
open Go.AW

abbrev keyA (k : Int × Int) : AV := .agg [.d (.int .i64 k.1), .d (.int .i64 k.2)]
abbrev zdU (D : List ((Int × Int) × Bool)) : List (AV × AV) := D.map fun e => (keyA e.1, .d (.bool e.2))
theorem key_keyEq (s x : Int × Int) : zcw (.ints 2) (keyA s) (keyA x) = some (decide (s = x)) := by
  obtain ⟨a, b⟩ := s; obtain ⟨c, d⟩ := x
  by_cases h1 : a = c
  · subst h1
    by_cases h2 : b = d
    · subst h2; simp [zcw, zay]
    · have h2' : (b == d) = false := by simpa using h2
      simp [zcw, zay, h2, h2']
  · have h1' : (a == c) = false := by simpa using h1
    simp [zcw, zay, h1, h1']
theorem zio (k : Int × Int) : ∀ (D : List ((Int × Int) × Bool)) (i : Nat), zgG (.ints 2) (keyA k) (zdU D) i = some ((zjc k D i).map fun q => (q.1, .d (.bool q.2)))
  | [], _ => rfl
  | e :: r, i => by
    simp only [zdU, List.map_cons, zgG, key_keyEq, zjc]
    by_cases h : k = e.1
    · simp [h]
    · simp only [h, decide_false, if_false]
      exact zio k r (i + 1)
theorem keyFit_key (k : Int × Int) : zcc (.ints 2) (keyA k) = true := by simp [zcc, zay]
theorem lastI_none7 : LastI zbZ.last := fun a ha => by
  simp only [zbZ, List.mem_replicate] at ha
  rw [ha.2]; simp
structure zht (S : List zb) (id am : Nat) (T : zS) (D : List ((Int × Int) × Bool)) (O : Nat → Prop) : Prop where
  top : zeC S id T O
  map : S[am]? = some (.map (zdU D))
  own : ¬ O am
theorem zht.app {S : List zb} {id am : Nat} {T : zS} {D : List ((Int × Int) × Bool)} {O : Nat → Prop} (h : zht S id am T D O) (τ : List zb) : zht (S ++ τ) id am T D O := ⟨h.top.app τ, ze h.map, h.own⟩
theorem zht.after {S S' : List zb} {id am : Nat} {T T' : zS} {D : List ((Int × Int) × Bool)} {O : Nat → Prop} (h : zht S id am T D O) (hA : After S id T' O S') : ∃ O', zht S' id am T' D O' ∧ StO S S' O ∧ ∀ j, O' j → O j ∨ S.length ≤ j := by
  obtain ⟨O', h1, h2, h3⟩ := hA
  refine ⟨O', ⟨h1, h2.at_ h.map h.own, fun hj => ?_⟩, h2, h3⟩
  have := zo h.map
  exact (h3 _ hj).elim h.own fun h => by omega
theorem zht.put {S : List zb} {id am : Nat} {T : zS} {D : List ((Int × Int) × Bool)} {O : Nat → Prop} (h : zht S id am T D O) (D' : List ((Int × Int) × Bool)) : zht (S.set am (.map (zdU D'))) id am T D' O :=
  ⟨h.top.set h.own _, List.getElem?_set_self (zo h.map), h.own⟩
theorem doneM_put (k : Int × Int) (v : Bool) (D : List ((Int × Int) × Bool)) : zdU (putD k v D) = match zjc k D 0 with | some q => (zdU D).set q.1 (keyA k, .d (.bool v)) | none => zdU D ++ [(keyA k, .d (.bool v))] := by
  unfold putD
  split
  · rename_i q hq; rw [hq]; simp [zdU, List.map_set]
  · rename_i hq; rw [hq]; simp [zdU]
def zeN : List (Bool × List Ty) := [(false, [.slice tyReq])]
theorem gq23 {A P Q : Prop} (a : A) (h : Q) (e : A → Hd Q → P := by intro a h; (repeat' first | simp -dsimp only [↓zhJ, ↓zbB, ↓zdh, ↓zhK, ↓zhC, ↓zhA, ↓zhD, ↓zhB, ↓zdm, ↓zdi, ↓zdn, ↓zdj, ↓zhE, ↓zdf, ↓zdo, ↓zdk, ↓zdp, ↓zdl, ↓zhy, ↓zhH, ↓zde, ↓zdq, ↓zhv, ↓zhu, ↓zhx, iN, bT, bF, eN, ↓zeB, ↓unC, ↓zas, ↓zZ, ↓zaa, ↓zaj, ↓zaK, ↓zbO, ↓zdM, ↓zaD, ↓zdL, ↓zaN, ↓zq, ↓zt, ↓zcV, ↓zl, ↓zak, ↓zY, ↓zbk, ↓zbe, ↓zd, ↓zG, ↓zp, ↓zL, ↓zaG, ↓zem, ↓zel, ↓zaH, ↓zbc, ↓zaS, ↓zbN, ↓zcb, ↓zD, ↓zaq, ↓zab, ↓zE, ↓zaE, zeh, zcC, zct, unA, zey, bnd, zfu, zaf, zaC, zfF, dm, dm1, zR, zbD, zge, zgd, zan, Q0, Q1, Q2, Q3, Q4, Q5, zaL, zV, zn, zaJ, zai, Q6, Q7, Q8, Q9, Q10, Q11, Q12, Q13, Q14, Nat.reduceAdd, Q15, Int.reduceToNat, Q16, Q17, Q18, Q19, Q20, reduceIte, Q21, Q22, zB, rep, zO, zgw, toD, zah, Q23, Q24, Q25, Q26, Q27, Q28, Nat.reduceLeDiff, Q29, Nat.reduceSub, Q30, Q31, Q32, sc, Q33, Q34, Q35, Q36, Q37, Q26, Q38, Q39, n0gt, n1gt, n2gt, n0eq, zim, n1eq, n2eq, n0ne, n1ne, zil, zin, i0ne, i0eq, Bool.not_true, Bool.not_false, List.length_map, reqD, a] | with_reducible refine andA ?_ | fail); exact h.go) : P := e a ⟨h⟩
theorem gq24 {A P Q : Prop} (a : A) (h : Q) (e : A → Hd Q → P := by intro a h; (repeat' first | simp -dsimp only [↓zhJ, ↓zbB, ↓zdh, ↓zhK, ↓zhC, ↓zhA, ↓zhD, ↓zhB, ↓zdm, ↓zdi, ↓zdn, ↓zdj, ↓zhE, ↓zdf, ↓zdo, ↓zdk, ↓zdp, ↓zdl, ↓zhy, ↓zhH, ↓zde, ↓zdq, ↓zhv, ↓zhu, ↓zhx, iN, bT, bF, eN, ↓zeB, ↓unC, ↓zas, ↓zZ, ↓zaa, ↓zaj, ↓zaK, ↓zbO, ↓zdM, ↓zaD, ↓zdL, ↓zaN, ↓zq, ↓zt, ↓zcV, ↓zl, ↓zak, ↓zY, ↓zbk, ↓zbe, ↓zd, ↓zG, ↓zp, ↓zL, ↓zaG, ↓zem, ↓zel, ↓zaH, ↓zbc, ↓zaS, ↓zbN, ↓zcb, ↓zD, ↓zaq, ↓zab, ↓zE, ↓zaE, zeh, zcC, zct, unA, zey, bnd, zfu, zaf, zaC, zfF, dm, dm1, zR, zbD, zge, zgd, zan, Q0, Q1, Q2, Q3, Q4, Q5, zaL, zV, zn, zaJ, zai, Q6, Q7, Q8, Q9, Q10, Q11, Q12, Q13, Q14, Nat.reduceAdd, Q15, Int.reduceToNat, Q16, Q17, Q18, Q19, Q20, reduceIte, Q21, Q22, zB, rep, zO, zgw, toD, zah, Q23, Q24, Q25, Q26, Q27, Q28, Nat.reduceLeDiff, Q29, Nat.reduceSub, Q30, Q31, Q32, sc, Q33, Q34, Q35, Q36, Q37, Q26, Q38, Q39, n0gt, n1gt, n2gt, n0eq, zim, n1eq, n2eq, n0ne, n1ne, zil, zin, i0ne, i0eq, Bool.not_true, Bool.not_false, List.length_map, Bool.true_eq_false, a] | with_reducible refine andA ?_ | fail); exact h.go) : P := e a ⟨h⟩
theorem ziZ (xs : List AV) (n : Nat) (hn : n ≤ 1048576) (h : ArgsOk zeN xs n) : zC Try.prog zcU xs [] fun r _ => r = .d (.bool true) := by
  obtain ⟨ds, xs1, m1, hf, hb1, rfl, rfl⟩ := h
  obtain ⟨l, rfl, hl1, hl2⟩ := args_reqs hn hf hb1
  show zC Try.prog zcU [.d (.slice (reqsE l))] [] _
  clear hf hb1
  obtain ⟨σ, hσ⟩ : ∃ σ : List zb, [] = σ := ⟨_, rfl⟩
  rw [hσ]
  refine acE1 zhq fun hl => ?_
  have fin : ∀ S, AW.Ends σ.length (fun r _ => r = .d (.bool true)) (some [.d (.bool true)]) S := fun S =>
    ziE (by rw [← hσ]; rfl) (by simp [Low_d, dmT, dm, dm1, zdY]) hl rfl
  have hll : (reqsE l).length = l.length := List.length_map ..
  simp only [zeF, iN, bT, bF, eN, zl0]
  refine c_live07 ?_
  refine zen ?_
  refine c_tpNew fun hT => ?_
  refine zbf hll ?_
  obtain ⟨O0, hO0⟩ : ∃ O0 : Nat → Prop, (fun j => j = σ.length + 1 ∨ j = σ.length) = O0 := ⟨_, rfl⟩
  rw [hO0] at hT
  have nO : ¬ O0 (σ.length + 2) := by rw [← hO0]; omega
  have hJ0 : zht (σ ++ [zb.map [], zb.box (AV.map σ.length :: zbT zbZ.last), zb.map []]) (σ.length + 1) (σ.length + 2) zbZ [] O0 := by
    have := hT.app [zb.map []]
    rw [List.append_assoc] at this
    exact ⟨this, by rw [zV]; rfl, nO⟩
  obtain ⟨S0, hS0⟩ : ∃ S0, σ ++ [zb.map [], zb.box (AV.map σ.length :: zbT zbZ.last), zb.map []] = S0 := ⟨_, rfl⟩
  obtain ⟨id, hid⟩ : ∃ id, σ.length + 1 = id := ⟨_, rfl⟩
  obtain ⟨am, ham⟩ : ∃ am, σ.length + 2 = am := ⟨_, rfl⟩
  have e2 : (σ ++ [zb.map [], zb.box (AV.map σ.length :: zbT zbZ.last)]).length = σ.length + 2 := by simp
  rw [hid, ham, hS0] at hJ0
  rw [e2, hS0, hid, ham]
  refine zba l.length (fun k vs S => vs = [.d (.int .i64 k)] ∧ ∃ T D O, zht S id am T D O ∧ zee T ∧ LastI T.last ∧ T.last.length = 8 ∧ zkx T D) ⟨rfl, zbZ, [], O0, hJ0, .none, lastI_none7, rfl, .nil _⟩ ?_
  rintro k vs S hk ⟨rfl, T, D, O, hJ, hI, hL, h8, hD⟩
  by_cases hlt : k < l.length
  · have hd : decide ((k : Int) < (l.length : Int)) = true := by simp; omega
    have hx : l[k]? = some l[k] := by simp [hlt]
    have hxo := hl2 _ (List.getElem_mem hlt)
    have hgx := map_get (f := reqD) hx
    obtain ⟨x, hxe⟩ : ∃ x, l[k] = x := ⟨_, rfl⟩
    rw [hxe] at hx hgx hxo
    obtain ⟨z1, z2, z3, z4⟩ := opSz_parts hxo
    refine gq23 (zf hd (zf hgx hll)) ?_
    obtain ⟨B, hB⟩ : ∃ B, zb.box [.d (.int .i64 x.client), .d (.int .i64 x.time), .d (.int .i64 x.op.kind), .d (.str x.op.topic), .d (.str x.op.group), .d (.int .i64 x.op.offset), .d (.slice (zbu x.op.recs))] = B := ⟨_, rfl⟩
    rw [hB]
    have hJ1 := hJ.app [B]
    refine zcK (c := x.client) (tm := x.time) (o := x.op) hJ1.top hI (by omega) (by omega) (by omega) (fun r hr => by have := z4 r hr; omega) fun S1 hS1 => ?_
    have hI' := applyI hI x.client x.time x.op
    have hL' := applyL hI hL x.client x.time x.op
    have h8' := (applyF_last (T := T) x.client x.time x.op).trans h8
    have hst := hD.step h8 x.client x.time x.op
    have hag := apply_again h8 x.client x.time x.op
    have hfr := hD.fresh h8 (c := x.client) (tm := x.time) (o := x.op)
    obtain ⟨A, hA⟩ : ∃ A, zx T x.client x.time x.op = A := ⟨_, rfl⟩
    rw [hA] at hS1 hI' hL' h8' hst hag hfr ⊢
    obtain ⟨O', hJ2, hSt, hO'⟩ := hJ1.after hS1
    have gB : S1[S.length]? = some B := hSt.at_ (by rw [zn]; rfl) fun h => by have := hJ.top.own_lt h; omega
    rw [← hB] at gB
    have gB' : ∀ τ, (S1 ++ τ)[S.length]? = _ := fun τ => ze gB
    have gm : ∀ τ, (S1 ++ τ)[am]? = _ := fun τ => ze hJ2.map
    have gl0 : ∀ a τ, (S1 ++ a :: τ)[S1.length]? = some a := fun a τ => zn ..
    have gl1 : ∀ a b τ, (S1 ++ a :: b :: τ)[S1.length + 1]? = some b := fun a b τ => by rw [zV]; rfl
    have hmf := zio (x.client, x.time) D 0
    have hkf := keyFit_key (x.client, x.time)
    have hke : zay [AV.d (.int .i64 x.client), AV.d (.int .i64 x.time)] [AV.d (.int .i64 x.client), AV.d (.int .i64 x.time)] = some true := by simp [zay]
    obtain ⟨r, hag1, hag2⟩ := hag
    obtain ⟨S2, hS2⟩ : ∃ S2, S1 ++ [zb.box [AV.d (.int .i64 A.1.1), AV.d (.int .i64 A.1.2)], zb.box [AV.d (.int .i64 x.client), AV.d (.int .i64 x.time)]] = S2 := ⟨_, rfl⟩
    have hJ3 : zht S2 id am A.2.2.2 D O' := by rw [← hS2]; exact hJ2.app _
    have g1 := gB' [zb.box [AV.d (.int .i64 A.1.1), AV.d (.int .i64 A.1.2)], zb.box [AV.d (.int .i64 x.client), AV.d (.int .i64 x.time)]]
    rw [hS2] at g1
    have g2 : S2[S1.length]? = some (.box [AV.d (.int .i64 A.1.1), AV.d (.int .i64 A.1.2)]) := by rw [← hS2]; exact gl0 _ _
    have g3 : S2[S1.length + 1]? = some (.box [AV.d (.int .i64 x.client), AV.d (.int .i64 x.time)]) := by rw [← hS2]; exact gl1 _ _ _
    have gm2 := hJ3.map
    have hml := zo gm2
    have n1 : am ≠ S.length := fun e => by rw [e, g1] at gm2; cases gm2
    have n2 : am ≠ S1.length := fun e => by rw [e, g2] at gm2; cases gm2
    have hdp := doneM_put (x.client, x.time) (getD' (x.client, x.time) D || A.2.2.1) D
    cases hk : A.2.2.1 <;> cases hf : zjc (x.client, x.time) D 0
    all_goals
      rw [hk] at hst hdp
      rw [hf] at hmf hdp
      simp only [getD', hf] at hst hdp hfr
      simp only [Option.map_some, Option.map_none] at hmf
    · simp only [Bool.or_false] at hst hdp
      refine zbf (zf hk (zf gB' (zf gm (zf gl0 gl1)))) ?_
      rw [hS2]
      refine zhz (zf gm2 (zf hke (zf hkf hmf))) ?_
      rw [← hdp]
      generalize putD (x.client, x.time) false D = D' at hst hdp ⊢
      (
        have hJ4 := hJ3.put D'
        have k1 : (S2.set am (.map (zdU D')))[S.length]? = _ := (List.getElem?_set_ne n1).trans g1
        have k2 : (S2.set am (.map (zdU D')))[S1.length]? = _ := (List.getElem?_set_ne n2).trans g2
        obtain ⟨S3, hS3⟩ : ∃ S3, S2.set am (.map (zdU D')) = S3 := ⟨_, rfl⟩
        rw [hS3] at hJ4 k1 k2 ⊢
        refine zcJ hJ4.top hI' hL' ?_
        refine zbf k1 ?_
        refine zcK (c := x.client) (tm := x.time) (o := x.op) hJ4.top hI' (by omega) (by omega) (by omega) (fun r hr => by have := z4 r hr; omega) fun S4 hS4 => ?_
        rw [hag1] at hS4 ⊢
        obtain ⟨O4, hJ5, hSt5, hO5⟩ := hJ4.after hS4
        have bl := zo k2
        have k3 : S4[S1.length]? = _ := hSt5.at_ k2 fun h => by have := hJ2.top.own_lt h; omega
        have k4 : ∀ τ, (S4 ++ τ)[S1.length]? = _ := fun τ => ze k3
        have k5 : ∀ a τ, (S4 ++ a :: τ)[S4.length]? = some a := fun a τ => zn ..
        have k6 : zay [AV.d (.int .i64 A.1.1), AV.d (.int .i64 A.1.2)] [AV.d (.int .i64 A.1.1), AV.d (.int .i64 A.1.2)] = some true := by simp [zay]
        (first | rw [hag2 hk] | skip)
        refine gq24 (zf hk (zf k4 (zf k5 k6))) ?_
        have hJ6 := hJ5.app [.box [.d (.int .i64 r.1), .d (.int .i64 r.2)]]
        (first | rw [hag2 hk] at hJ6 | skip)
        refine zcJ hJ6.top hI' hL' ?_
        refine zen ?_
        refine zbJ ?_
        rw [beq_self_eq_true]
        refine zbf (wkc k (by omega)) ?_
        exact zeg.next hlt ⟨rfl, _, D', _, hJ6, hI', hL', h8', hst⟩)
    · rename_i q
      simp only [Bool.or_false] at hst hdp
      refine zbf (zf hk (zf gB' (zf gm (zf gl0 gl1)))) ?_
      rw [hS2]
      cases hq : q.2
      all_goals
        rw [hq] at hst hdp hmf
        refine zhz (zf gm2 (zf hke (zf hkf (zf hmf hq)))) ?_
        rw [← hdp]
        generalize putD (x.client, x.time) _ D = D' at hst hdp ⊢
        (
        have hJ4 := hJ3.put D'
        have k1 : (S2.set am (.map (zdU D')))[S.length]? = _ := (List.getElem?_set_ne n1).trans g1
        have k2 : (S2.set am (.map (zdU D')))[S1.length]? = _ := (List.getElem?_set_ne n2).trans g2
        obtain ⟨S3, hS3⟩ : ∃ S3, S2.set am (.map (zdU D')) = S3 := ⟨_, rfl⟩
        rw [hS3] at hJ4 k1 k2 ⊢
        refine zcJ hJ4.top hI' hL' ?_
        refine zbf k1 ?_
        refine zcK (c := x.client) (tm := x.time) (o := x.op) hJ4.top hI' (by omega) (by omega) (by omega) (fun r hr => by have := z4 r hr; omega) fun S4 hS4 => ?_
        rw [hag1] at hS4 ⊢
        obtain ⟨O4, hJ5, hSt5, hO5⟩ := hJ4.after hS4
        have bl := zo k2
        have k3 : S4[S1.length]? = _ := hSt5.at_ k2 fun h => by have := hJ2.top.own_lt h; omega
        have k4 : ∀ τ, (S4 ++ τ)[S1.length]? = _ := fun τ => ze k3
        have k5 : ∀ a τ, (S4 ++ a :: τ)[S4.length]? = some a := fun a τ => zn ..
        have k6 : zay [AV.d (.int .i64 A.1.1), AV.d (.int .i64 A.1.2)] [AV.d (.int .i64 A.1.1), AV.d (.int .i64 A.1.2)] = some true := by simp [zay]
        (first | rw [hag2 hk] | skip)
        refine gq24 (zf hk (zf k4 (zf k5 k6))) ?_
        have hJ6 := hJ5.app [.box [.d (.int .i64 r.1), .d (.int .i64 r.2)]]
        (first | rw [hag2 hk] at hJ6 | skip)
        refine zcJ hJ6.top hI' hL' ?_
        refine zen ?_
        refine zbJ ?_
        rw [beq_self_eq_true]
        refine zbf (wkc k (by omega)) ?_
        exact zeg.next hlt ⟨rfl, _, D', _, hJ6, hI', hL', h8', hst⟩)
    · simp only [Bool.or_true] at hst hdp
      refine zbf (zf hk (zf gB' (zf gm (zf gl0 gl1)))) ?_
      rw [hS2]
      refine zhz (zf gm2 (zf hke (zf hkf hmf))) ?_
      rw [← hdp]
      generalize putD (x.client, x.time) true D = D' at hst hdp ⊢
      (
        have hJ4 := hJ3.put D'
        have k1 : (S2.set am (.map (zdU D')))[S.length]? = _ := (List.getElem?_set_ne n1).trans g1
        have k2 : (S2.set am (.map (zdU D')))[S1.length]? = _ := (List.getElem?_set_ne n2).trans g2
        obtain ⟨S3, hS3⟩ : ∃ S3, S2.set am (.map (zdU D')) = S3 := ⟨_, rfl⟩
        rw [hS3] at hJ4 k1 k2 ⊢
        refine zcJ hJ4.top hI' hL' ?_
        refine zbf k1 ?_
        refine zcK (c := x.client) (tm := x.time) (o := x.op) hJ4.top hI' (by omega) (by omega) (by omega) (fun r hr => by have := z4 r hr; omega) fun S4 hS4 => ?_
        rw [hag1] at hS4 ⊢
        obtain ⟨O4, hJ5, hSt5, hO5⟩ := hJ4.after hS4
        have bl := zo k2
        have k3 : S4[S1.length]? = _ := hSt5.at_ k2 fun h => by have := hJ2.top.own_lt h; omega
        have k4 : ∀ τ, (S4 ++ τ)[S1.length]? = _ := fun τ => ze k3
        have k5 : ∀ a τ, (S4 ++ a :: τ)[S4.length]? = some a := fun a τ => zn ..
        have k6 : zay [AV.d (.int .i64 A.1.1), AV.d (.int .i64 A.1.2)] [AV.d (.int .i64 A.1.1), AV.d (.int .i64 A.1.2)] = some true := by simp [zay]
        (first | rw [hag2 hk] | skip)
        refine gq24 (zf hk (zf k4 (zf k5 k6))) ?_
        have hJ6 := hJ5.app [.box [.d (.int .i64 r.1), .d (.int .i64 r.2)]]
        (first | rw [hag2 hk] at hJ6 | skip)
        refine zcJ hJ6.top hI' hL' ?_
        refine zen ?_
        refine zbJ ?_
        rw [beq_self_eq_true]
        refine zbf (wkc k (by omega)) ?_
        exact zeg.next hlt ⟨rfl, _, D', _, hJ6, hI', hL', h8', hst⟩)
    · rename_i q
      simp only [Bool.or_true] at hst hdp
      have hq : q.2 = false := hfr hk
      rw [hq] at hmf
      refine zbf (zf hk (zf gB' (zf gm (zf gl0 gl1)))) ?_
      rw [hS2]
      refine zhz (zf gm2 (zf hke (zf hkf (zf hmf hq)))) ?_
      rw [← hdp]
      generalize putD (x.client, x.time) true D = D' at hst hdp ⊢
      (
        have hJ4 := hJ3.put D'
        have k1 : (S2.set am (.map (zdU D')))[S.length]? = _ := (List.getElem?_set_ne n1).trans g1
        have k2 : (S2.set am (.map (zdU D')))[S1.length]? = _ := (List.getElem?_set_ne n2).trans g2
        obtain ⟨S3, hS3⟩ : ∃ S3, S2.set am (.map (zdU D')) = S3 := ⟨_, rfl⟩
        rw [hS3] at hJ4 k1 k2 ⊢
        refine zcJ hJ4.top hI' hL' ?_
        refine zbf k1 ?_
        refine zcK (c := x.client) (tm := x.time) (o := x.op) hJ4.top hI' (by omega) (by omega) (by omega) (fun r hr => by have := z4 r hr; omega) fun S4 hS4 => ?_
        rw [hag1] at hS4 ⊢
        obtain ⟨O4, hJ5, hSt5, hO5⟩ := hJ4.after hS4
        have bl := zo k2
        have k3 : S4[S1.length]? = _ := hSt5.at_ k2 fun h => by have := hJ2.top.own_lt h; omega
        have k4 : ∀ τ, (S4 ++ τ)[S1.length]? = _ := fun τ => ze k3
        have k5 : ∀ a τ, (S4 ++ a :: τ)[S4.length]? = some a := fun a τ => zn ..
        have k6 : zay [AV.d (.int .i64 A.1.1), AV.d (.int .i64 A.1.2)] [AV.d (.int .i64 A.1.1), AV.d (.int .i64 A.1.2)] = some true := by simp [zay]
        (first | rw [hag2 hk] | skip)
        refine gq24 (zf hk (zf k4 (zf k5 k6))) ?_
        have hJ6 := hJ5.app [.box [.d (.int .i64 r.1), .d (.int .i64 r.2)]]
        (first | rw [hag2 hk] at hJ6 | skip)
        refine zcJ hJ6.top hI' hL' ?_
        refine zen ?_
        refine zbJ ?_
        rw [beq_self_eq_true]
        refine zbf (wkc k (by omega)) ?_
        exact zeg.next hlt ⟨rfl, _, D', _, hJ6, hI', hL', h8', hst⟩)
  · have hd : decide ((k : Int) < (l.length : Int)) = false := by simp; omega
    refine zbf hd ?_
    exact fin _
end Go.Proofs.Ytaocmalhjfakdaa
