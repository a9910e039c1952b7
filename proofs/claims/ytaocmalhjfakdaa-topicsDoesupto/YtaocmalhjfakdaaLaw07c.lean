/- The law TopicsDoes, from the contracts. -/
import Derived.Test.YtaocmalhjfakdaaLaw07a
import Derived.Test.YtaocmalhjfakdaaKs7
import Derived.Test.YtaocmalhjfakdaaKs8
import Derived.Test.YtaocmalhjfakdaaSpOnce
set_option linter.all false
set_option maxRecDepth 100000
set_option linter.unusedSimpArgs false
set_option linter.unusedVariables false
namespace Go.Proofs.Ytaocmalhjfakdaa
open Go.AW

section
variable {σ S : List zb} {id e t g : Nat} {T : zP} {O : Nat → Prop}
theorem zdm.norow (h : zdm σ id T O) {j : Nat} (hj : O j) : ∃ x, σ[j]? = some x ∧ ∀ g sz cs, x ≠ .row g sz cs := by
  obtain ⟨m, X, h1, h2, h3⟩ := h
  rcases (h3 j).1 hj with rfl | rfl | ⟨p, hp, rfl | rfl | rfl⟩
  · exact ⟨_, h1.box, fun _ _ _ h => by cases h⟩
  · exact ⟨_, h1.map, fun _ _ _ h => by cases h⟩
  · exact ⟨_, (h1.tops p hp).b, fun _ _ _ h => by cases h⟩
  · exact ⟨_, (h1.tops p hp).g, fun _ _ _ h => by cases h⟩
  · exact ⟨_, (h1.tops p hp).t, fun _ _ _ h => by cases h⟩
theorem zdm.stays (h : zdm σ id T O) (hs : zgz σ S e) (he : ¬ O e) : zdm S id T O := h.keep fun j hj => by
  obtain ⟨x, hx, hr⟩ := h.norow hj
  rw [hx]
  exact hs.get j x hx (fun e' => he (e' ▸ hj)) hr
theorem zdm.notO (h : zdm σ id T O) {sz : Nat} {cs : List AV} (hr : σ[t]? = some (.row g sz cs)) : ¬ O t := fun hj => by
  obtain ⟨x, hx, hn⟩ := h.norow hj
  rw [hr] at hx
  exact hn g sz cs (Option.some.inj hx).symm
theorem zbo.keepO (h : zbo σ e t g T) (hs : StO σ S O) (h1 : ¬ O e) (h2 : ¬ O t) : zbo S e t g T := ⟨hs.at_ h.box h1, hs.at_ h.row h2, h.last⟩
end

structure TwoJ (S : List zb) (h e t g : Nat) (T : zP) (O : Nat → Prop) : Prop where
  prg : zdm S h T O
  doc : zbo S e t g T
  no : ¬ O e
  I : zcF T
  L : LastI T.last
section

variable {S : List zb} {h e t g : Nat} {T : zP} {O : Nat → Prop}

theorem TwoJ.app (j : TwoJ S h e t g T O) (τ : List zb) : TwoJ (S ++ τ) h e t g T O := ⟨j.prg.app τ, j.doc.app τ, j.no, j.I, j.L⟩
theorem TwoJ.notT (j : TwoJ S h e t g T O) : ¬ O t := j.prg.notO j.doc.row
end

abbrev twoB (n : Nat) : List zb := [.map [], .box (.map n :: zbb zcw.last), .box (.rsl (n + 3) 0 4 0 0 :: zbb zcw.last), .row 0 4 []]
theorem two_weak {σ : List zb} (vs : List AV) : zju vs (σ ++ [zb.map [], zb.box (AV.map σ.length :: zbb zcw.last), zb.box (.exact [] :: zbb zcw.last)]) vs (σ ++ twoB σ.length) := by
  refine .rowB (σ.length + 2) 0 (.exact [] :: zbb zcw.last) 4 (by rw [zE]; rfl) rfl (by omega) ?_
  rw [zar, zao]
  simp only [List.set_cons_succ, List.set_cons_zero, List.length_cons, List.length_nil, List.append_assoc, List.cons_append, List.nil_append]
  exact .refl _ _
def zgG : List (Bool × List Ty) := [(false, [.slice tyReq])]
theorem gq32 {A P Q : Prop} (a : A) (h : Q) (e : A → Hd Q → P := by intro a h; (repeat' first | simp -dsimp only [↓zhT, ↓zbn, ↓zcK, ↓zhV, ↓zhN, ↓zhL, ↓zhO, ↓zhM, ↓zcQ, ↓zcM, ↓zcR, ↓zcN, ↓zhP, ↓zcI, ↓zcS, ↓zcO, ↓zcT, ↓zcP, ↓zhJ, ↓zhS, ↓zcH, ↓zcV, ↓zhC, ↓zhB, ↓zhI, iN, bT, bF, eN, ↓zeJ, ↓unC, ↓zap, ↓zR, ↓zS, ↓zY, ↓zaF, ↓zaY, ↓zdC, ↓zax, ↓zcY, ↓zae, ↓zk, ↓zi, ↓zcc, ↓zg, ↓zaq, ↓zt, ↓zbc, ↓zbk, ↓zf, ↓zA, ↓zw, ↓zx, ↓zaL, ↓zeU, ↓zeT, ↓zaM, ↓zbd, ↓zbg, ↓zbF, ↓zcj, ↓zC, ↓zay, ↓zT, ↓zF, ↓zaE, zeP, zcu, zco, unA, zfn, bnd, zfF, zai, zag, zfW, dm, dm1, zj, zaD, zgu, zgt, keepO, Q0, Q1, Q2, Q3, Q4, Q5, zao, zE, zl, zar, zW, Q6, Q7, Q8, Q9, Q10, Q11, Q12, Q13, Q14, Nat.reduceAdd, Q15, Int.reduceToNat, Q16, Q17, Q18, Q19, Q20, reduceIte, Q21, Q22, zn, rep, zX, zhD, toD, zaz, Q23, Q24, Q25, Q26, Q27, Q28, Nat.reduceLeDiff, Q29, Nat.reduceSub, Q30, Q31, Q32, sc, Q33, Q34, Q35, Q36, Q37, Q26, Q38, Q39, n0gt, n1gt, n2gt, n0eq, ziD, n1eq, n2eq, n0ne, n1ne, ziC, ziE, i0ne, i0eq, Bool.not_true, Bool.not_false, List.length_map, reqD, a] | with_reducible refine andA ?_ | fail); exact h.go) : P := e a ⟨h⟩
theorem zlk (xs : List AV) (n : Nat) (hn : n ≤ 1048576) (h : ArgsOk zgG xs n) : zu Try.prog zel xs [] fun r _ => r = .d (.bool true) := by
  obtain ⟨ds, xs1, m1, hf, hb1, rfl, rfl⟩ := h
  obtain ⟨l, rfl, hl1, hl2⟩ := args_reqs hn hf hb1
  show zu Try.prog zel [.d (.slice (reqsE l))] [] _
  clear hf hb1
  obtain ⟨σ, hσ⟩ : ∃ σ : List zb, [] = σ := ⟨_, rfl⟩
  rw [hσ]
  refine zlr zjX fun hl => ?_
  have fin : ∀ S, AW.Ends σ.length (fun r _ => r = .d (.bool true)) (some [.d (.bool true)]) S := fun S =>
    zgN (by rw [← hσ]; rfl) (by simp [zlt, dmT, dm, dm1, zep]) hl rfl
  have hll : (reqsE l).length = l.length := List.length_map ..
  simp only [zgo, iN, bT, bF, eN, zl0, zl1, zl2]
  refine c_live07 ?_
  refine zbw ?_
  refine c_tpNew fun hT => ?_
  refine zV hll ?_
  obtain ⟨O0, hO0⟩ : ∃ O0 : Nat → Prop, (fun j => j = σ.length + 1 ∨ j = σ.length) = O0 := ⟨_, rfl⟩
  rw [hO0] at hT
  have hJ0 : TwoJ (σ ++ twoB σ.length) (σ.length + 1) (σ.length + 2) (σ.length + 3) 0 zcw O0 := by
    have := hT.app [zb.box (.rsl (σ.length + 3) 0 4 0 0 :: zbb zcw.last), .row 0 4 []]
    rw [List.append_assoc] at this
    exact ⟨this, ⟨by rw [zE]; rfl, by rw [zE]; rfl, rfl⟩, by rw [← hO0]; omega, .none, lastI_none7⟩
  have e2 : (σ ++ [zb.map [], zb.box (AV.map σ.length :: zbb zcw.last)]).length = σ.length + 2 := by simp
  rw [e2]
  obtain ⟨e, he⟩ : ∃ e, σ.length + 2 = e := ⟨_, rfl⟩
  rw [he] at hJ0 ⊢
  refine zcr l.length (fun k vs S => ∃ h t g T O, vs = [.box h 0, .d (.int .i64 k)] ∧ TwoJ S h e t g T O) (two_weak _) ⟨_, _, _, _, _, rfl, hJ0⟩ ?_
  rintro k vs S hk ⟨h, t, g, T, O, rfl, hJ⟩
  by_cases hlt : k < l.length
  · have hd : decide ((k : Int) < (l.length : Int)) = true := by simp; omega
    have hx : l[k]? = some l[k] := by simp [hlt]
    have hxo := hl2 _ (List.getElem_mem hlt)
    have hgx := zaP (f := reqD) hx
    obtain ⟨x, hxe⟩ : ∃ x, l[k] = x := ⟨_, rfl⟩
    rw [hxe] at hx hgx hxo
    obtain ⟨z1, z2, z3, z4⟩ := opSz_parts hxo
    refine gq32 (zd hd (zd hgx hll)) ?_
    obtain ⟨B, hB⟩ : ∃ B, zb.box [.d (.int .i64 x.client), .d (.int .i64 x.time), .d (.int .i64 x.op.kind), .d (.str x.op.topic), .d (.str x.op.group), .d (.int .i64 x.op.offset), .d (.slice (zQ x.op.recs))] = B := ⟨_, rfl⟩
    rw [hB]
    have hJ1 := hJ.app [B]
    refine zfh (c := x.client) (tm := x.time) (o := x.op) hJ1.prg hJ.I (by omega) (by omega) (by omega) (fun r hr => by have := z4 r hr; omega) fun S1 hS1 => ?_
    have hI' := applyI hJ.I x.client x.time x.op
    have hL' := applyL hJ.I hJ.L x.client x.time x.op
    have h8' := (applyF_last (T := T) x.client x.time x.op).trans hJ.doc.last
    have hap := (applyP hJ.I x.client x.time x.op).2
    obtain ⟨A, hA⟩ : ∃ A, zaa T x.client x.time x.op = A := ⟨_, rfl⟩
    rw [hA] at hS1 hI' hL' h8' hap ⊢
    obtain ⟨O', hT1, hSt, hO'⟩ := hS1
    have hD1 : zbo S1 e t g T := hJ1.doc.keepO hSt hJ1.no hJ1.notT
    have hel := zh hJ.doc.box
    have nO : ¬ O' e := fun hj => (hO' _ hj).elim hJ.no fun h => by simp at h; omega
    have gB : S1[S.length]? = some B := hSt.at_ (by rw [zl]; rfl) fun h => by have := hJ.prg.own_lt h; omega
    have gB' := gB
    rw [← hB] at gB'
    have lB := zh gB
    have xB : ∀ τ, (S1 ++ τ)[S.length]? = _ := fun τ => ze gB'
    have xl : ∀ a τ, (S1 ++ a :: τ)[S1.length]? = some a := fun a τ => zl ..
    refine zV (zd xB xl) ?_
    refine c_r7Apply (c := x.client) (tm := x.time) (o := x.op) (hD1.app _) hJ.I.len hJ.I.tops (by omega) (by omega) (by omega) (fun r hr => by have := z4 r hr; omega) fun S2 t2 g2 hD2 hS2 => ?_
    rw [hA] at hD2 ⊢
    have hT2 : zdm S2 h A.2.2.2 O' := (hT1.app _).stays hS2 nO
    have gR : S2[S1.length]? = some (.box [.d (.int .i64 A.1.1), .d (.int .i64 A.1.2)]) := hS2.get _ _ (xl _ _) (by omega) (fun _ _ _ h => by cases h)
    have gB2 := hS2.get _ _ (xB [.box [.d (.int .i64 A.1.1), .d (.int .i64 A.1.2)]]) (by omega) (fun _ _ _ h => by cases h)
    have yR : ∀ τ, (S2 ++ τ)[S1.length]? = _ := fun τ => ze gR
    have yB : ∀ τ, (S2 ++ τ)[S.length]? = _ := fun τ => ze gB2
    have yl : ∀ a τ, (S2 ++ a :: τ)[S2.length]? = some a := fun a τ => zl ..
    have k6 : zbK [AV.d (.int .i64 A.1.1), AV.d (.int .i64 A.1.2)] [AV.d (.int .i64 A.1.1), AV.d (.int .i64 A.1.2)] = some true := by simp [zbK]
    have k7 : (A.2.2.1 != A.2.2.1) = false := by simp
    have k8 : (A.2.2.1 == A.2.2.1) = true := by simp
    refine zV (zd yR (zd yB (zd yl (zd k6 (zd k7 k8))))) ?_
    refine zlp (by omega) ?_
    refine zV (zd k8 yB) ?_
    have hJ3 : TwoJ (S2 ++ [zb.box [AV.d (.int .i64 A.1.1), AV.d (.int .i64 A.1.2)]]) h e t2 g2 A.2.2.2 O' := TwoJ.app ⟨hT2, hD2, nO, hI', hL'⟩ _
    have gB3 := yB [zb.box [AV.d (.int .i64 A.1.1), AV.d (.int .i64 A.1.2)]]
    obtain ⟨S3, hS3⟩ : ∃ S3, S2 ++ [zb.box [AV.d (.int .i64 A.1.1), AV.d (.int .i64 A.1.2)]] = S3 := ⟨_, rfl⟩
    rw [hS3] at hJ3 gB3 ⊢
    refine c_same (o := x.op) hJ3.prg hJ3.doc hI' hL' ?_
    refine zV gB3 ?_
    refine c_tpLast hJ3.prg ?_
    have wB : ∀ τ, (S3 ++ τ)[S.length]? = _ := fun τ => ze gB3
    have wD : ∀ τ, (S3 ++ τ)[e]? = _ := fun τ => ze hJ3.doc.box
    have wl : ∀ a τ, (S3 ++ a :: τ)[S3.length]? = some a := fun a τ => zl ..
    have next : ∀ S4 h4 O4, TwoJ S4 h4 e t2 g2 A.2.2.2 O4 → zca l.length (fun k vs S => ∃ h t g T O, vs = [.box h 0, .d (.int .i64 k)] ∧ TwoJ S h e t g T O) k [.box h4 0, .d (.int .i64 ((k + 1 : Nat) : Int))] S4 := fun S4 h4 O4 hj => zca.next hlt ⟨h4, t2, g2, _, O4, rfl, hj⟩
    obtain ⟨Q, hQ⟩ : ∃ Q, lastQ A.2.2.2 x.client = Q := ⟨_, rfl⟩
    rw [hQ]
    have hJ4 := hJ3.app [.box [.d (.int .i64 Q.2.1), .d (.int .i64 Q.2.2)]]
    cases c0 : decide (x.client ≥ 0)
    · refine zV (zd wB (zd wD (zd wl c0))) ?_
      (
      cases c8 : ((k : Int).tmod 8 == 7)
      · refine zV (zd c8 (zd wl (wkc k (by omega)))) ?_
        exact next _ _ _ hJ4
      · refine zV (zd c8 wl) ?_
        refine zkU hJ4.prg hI' fun S5 id5 O5 hT5 hn5 hl5 hk5 => ?_
        have hJ5 : TwoJ S5 h e t2 g2 A.2.2.2 O' := ⟨hJ4.prg.keep fun j hj => hk5 j (hJ4.prg.own_lt hj), ⟨(hk5 _ (zh hJ4.doc.box)).trans hJ4.doc.box, (hk5 _ (zh hJ4.doc.row)).trans hJ4.doc.row, hJ4.doc.last⟩, nO, hI', hL'⟩
        have hd5 : ∀ j, O5 j → ¬ O' j := fun j hj h => by have := hn5 j hj; have := hJ4.prg.own_lt h; omega
        have hn6 : ¬ O5 e := fun h => by have := hn5 _ h; have := zh hJ4.doc.box; omega
        refine zbw ?_
        refine zfh (c := 0) (tm := 9007199254740992) (o := ⟨1, [111, 116, 104, 101, 114], [], 0, []⟩) hJ5.prg hI' (by decide) (by decide) (by decide) (by decide) fun S6 hS6 => ?_
        obtain ⟨O6, _, hSt6, _⟩ := hS6
        refine zV (wkc k (by omega)) ?_
        exact next _ _ O5 ⟨hT5.keep fun j hj => hSt6.get j (hd5 j hj) (hT5.own_lt hj), hJ5.doc.keepO hSt6 nO hJ5.notT, hn6, hI', hL'⟩)
    cases c1 : decide (x.client < 8)
    · refine zV (zd wB (zd wD (zd wl (zd c0 c1)))) ?_
      (
      cases c8 : ((k : Int).tmod 8 == 7)
      · refine zV (zd c8 (zd wl (wkc k (by omega)))) ?_
        exact next _ _ _ hJ4
      · refine zV (zd c8 wl) ?_
        refine zkU hJ4.prg hI' fun S5 id5 O5 hT5 hn5 hl5 hk5 => ?_
        have hJ5 : TwoJ S5 h e t2 g2 A.2.2.2 O' := ⟨hJ4.prg.keep fun j hj => hk5 j (hJ4.prg.own_lt hj), ⟨(hk5 _ (zh hJ4.doc.box)).trans hJ4.doc.box, (hk5 _ (zh hJ4.doc.row)).trans hJ4.doc.row, hJ4.doc.last⟩, nO, hI', hL'⟩
        have hd5 : ∀ j, O5 j → ¬ O' j := fun j hj h => by have := hn5 j hj; have := hJ4.prg.own_lt h; omega
        have hn6 : ¬ O5 e := fun h => by have := hn5 _ h; have := zh hJ4.doc.box; omega
        refine zbw ?_
        refine zfh (c := 0) (tm := 9007199254740992) (o := ⟨1, [111, 116, 104, 101, 114], [], 0, []⟩) hJ5.prg hI' (by decide) (by decide) (by decide) (by decide) fun S6 hS6 => ?_
        obtain ⟨O6, _, hSt6, _⟩ := hS6
        refine zV (wkc k (by omega)) ?_
        exact next _ _ O5 ⟨hT5.keep fun j hj => hSt6.get j (hd5 j hj) (hT5.own_lt hj), hJ5.doc.keepO hSt6 nO hJ5.notT, hn6, hI', hL'⟩)
    have e0 : 0 ≤ x.client := by simpa using c0
    have e1 : x.client < 8 := by simpa using c1
    obtain ⟨a, ha⟩ : ∃ a, A.2.2.2.last[x.client.toNat]? = some a := ⟨_, List.getElem?_eq_getElem (by omega)⟩
    have hQa : Q = a := by rw [← hQ, lastQ, if_neg (by omega), List.getD_eq_getElem?_getD, ha]; rfl
    subst hQa
    have hl3 := zeW ha
    have hl4 : ∀ X : AV, List.take 3 (List.drop (1 + x.client.toNat * 3) (X :: zbb A.2.2.2.last)) = [.d (.int .i64 Q.1), .d (.int .i64 Q.2.1), .d (.int .i64 Q.2.2)] := fun X => by
      rw [Nat.add_comm, List.drop_succ_cons]; exact hl3
    have hl1 : ∀ X : AV, (X :: zbb A.2.2.2.last)[1 + x.client.toNat * 3]? = some (.d (.int .i64 Q.1)) := fun X => by
      have := congrArg (·[0]?) (hl4 X)
      simpa [List.getElem?_take, List.getElem?_drop] using this
    have hl2 : ∀ X : AV, List.take 2 (List.drop (1 + (x.client.toNat * 3 + 1)) (X :: zbb A.2.2.2.last)) = [.d (.int .i64 Q.2.1), .d (.int .i64 Q.2.2)] := fun X => by
      rw [← Nat.add_assoc]
      have := congrArg (List.drop 1) (hl4 X)
      rw [List.drop_take, List.drop_drop] at this
      simpa using this
    have k9 : (Q.1 != Q.1) = false := by simp
    have k10 : zbK [AV.d (.int .i64 Q.2.1), AV.d (.int .i64 Q.2.2)] [AV.d (.int .i64 Q.2.1), AV.d (.int .i64 Q.2.2)] = some true := by simp [zbK]
    have hlc := zcL A.2.2.2.last
    rw [h8'] at hlc
    refine zV (zd wB (zd wD (zd wl (zd c0 (zd c1 (zd hl1 (zd hl2 (zd k9 (zd k10 hlc))))))))) ?_
    (
      cases c8 : ((k : Int).tmod 8 == 7)
      · refine zV (zd c8 (zd wl (wkc k (by omega)))) ?_
        exact next _ _ _ hJ4
      · refine zV (zd c8 wl) ?_
        refine zkU hJ4.prg hI' fun S5 id5 O5 hT5 hn5 hl5 hk5 => ?_
        have hJ5 : TwoJ S5 h e t2 g2 A.2.2.2 O' := ⟨hJ4.prg.keep fun j hj => hk5 j (hJ4.prg.own_lt hj), ⟨(hk5 _ (zh hJ4.doc.box)).trans hJ4.doc.box, (hk5 _ (zh hJ4.doc.row)).trans hJ4.doc.row, hJ4.doc.last⟩, nO, hI', hL'⟩
        have hd5 : ∀ j, O5 j → ¬ O' j := fun j hj h => by have := hn5 j hj; have := hJ4.prg.own_lt h; omega
        have hn6 : ¬ O5 e := fun h => by have := hn5 _ h; have := zh hJ4.doc.box; omega
        refine zbw ?_
        refine zfh (c := 0) (tm := 9007199254740992) (o := ⟨1, [111, 116, 104, 101, 114], [], 0, []⟩) hJ5.prg hI' (by decide) (by decide) (by decide) (by decide) fun S6 hS6 => ?_
        obtain ⟨O6, _, hSt6, _⟩ := hS6
        refine zV (wkc k (by omega)) ?_
        exact next _ _ O5 ⟨hT5.keep fun j hj => hSt6.get j (hd5 j hj) (hT5.own_lt hj), hJ5.doc.keepO hSt6 nO hJ5.notT, hn6, hI', hL'⟩)
  · have hd : decide ((k : Int) < (l.length : Int)) = false := by simp; omega
    refine zV hd ?_
    exact fin _
end Go.Proofs.Ytaocmalhjfakdaa
