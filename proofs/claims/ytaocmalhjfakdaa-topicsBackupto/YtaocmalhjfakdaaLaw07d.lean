/- The law TopicsBack, from the contracts. -/
import Derived.Test.YtaocmalhjfakdaaKs6
import Derived.Test.YtaocmalhjfakdaaKs11
import Derived.Test.YtaocmalhjfakdaaSpBack
import Derived.Test.YtaocmalhjfakdaaId3
set_option linter.all false
set_option maxRecDepth 100000
set_option linter.unusedSimpArgs false
set_option linter.unusedVariables false
namespace Go.Proofs.Ytaocmalhjfakdaa
open Go.AW

theorem zmc {σ : List zc} {id tid m t : Nat} {T : zO} {O : Nat → Prop} {L : List (List UInt8)} (h : zda σ id T O) (hI : zdn T) (hL : zlA T.last) (h8 : T.last.length = 8) (hT : zfD σ tid m t L) (hll : L.length ≤ 1048576) {K : AV → List zc → Prop}
    (hK : K (.d (.int .i64 (sumN L (zeO T)))) (putTab σ tid m t (sumL L (zeO T)))) : zt Try.prog zbk [.box id 0, .box tid 0] σ K := by
  refine zat zdw.is rfl fun hl _ => zdw.goes ?_
  obtain ⟨mm, hb, _⟩ := h.box
  have hlen := topsB_len hI hL h8
  simp only [zdB, iN, bT, bF, eN]
  refine gq1 ?_
  refine ziP hb ?_
  refine gq1 ?_
  refine zgP h hI hL ?_
  refine gq1 ?_
  refine c_tSum hT (by omega) hll ?_
  refine gq1 ?_
  exact zaR hK
structure Good (T : zO) : Prop where
  I : zdn T
  X : TopsX T
  L : zlA T.last
  h8 : T.last.length = 8
theorem good_none : Good zbR := ⟨.none, .none, lastI_none7, rfl⟩
theorem Good.apply {T : zO} (h : Good T) (c tm : Int) (o : TOp) : Good (zaB T c tm o).2.2.2 :=
  ⟨applyI h.I c tm o, applyX h.X h.I c tm o, applyL h.I h.L c tm o, (applyF_last (T := T) c tm o).trans h.h8⟩
theorem good_W {σ : List zc} {id : Nat} {T : zO} {O : Nat → Prop} (h : Good T) (hT : zda σ id T O) : TopsW T := by
  obtain ⟨m, X, _, hR⟩ := hT.prg
  exact topsW_of h.I h.X h.h8 hR.sort hT.srt
structure BothJ (S : List zc) (id id2 : Nat) (T : zO) (O O2 : Nat → Prop) : Prop where
  a : zda S id T O
  b : zda S id2 T O2
  no : ∀ j, O j → ¬ O2 j
  g : Good T
theorem BothJ.app {S : List zc} {id id2 : Nat} {T : zO} {O O2 : Nat → Prop} (h : BothJ S id id2 T O O2) (τ : List zc) : BothJ (S ++ τ) id id2 T O O2 := ⟨h.a.app τ, h.b.app τ, h.no, h.g⟩
theorem sumN_nil (B : List UInt8) : sumN [] B = 1 ∧ sumL [] B = [B] ∧ sumN [B] B = 1 ∧ sumL [B] B = [B] := by
  simp [sumN, sumL, zgJ, zfr]
def zgD : List (Bool × List Ty) := [(false, [.slice tyReq]), (false, [.slice tyReq])]
theorem gq32 {A P Q : Prop} (a : A) (h : Q) (e : A → Hd Q → P := by intro a h; (repeat' first | simp -dsimp only [↓zhM, ↓zbc, ↓zcw, ↓zhN, ↓zhF, ↓zhD, ↓zhG, ↓zhE, ↓zcB, ↓zcx, ↓zcC, ↓zcy, ↓zhH, ↓zcv, ↓zcD, ↓zcz, ↓zcE, ↓zcA, ↓zhC, ↓zhK, ↓zcu, ↓zcF, ↓zhu, ↓zht, ↓zhA, iN, bT, bF, eN, ↓zdW, ↓unC, ↓zW, ↓zP, ↓zQ, ↓zZ, ↓zax, ↓zbx, ↓zdD, ↓zan, ↓zcV, ↓zaD, ↓zn, ↓zp, ↓zca, ↓zh, ↓zak, ↓zN, ↓zbf, ↓zba, ↓ze, ↓zD, ↓zl, ↓zA, ↓zas, ↓zeB, ↓zeQ, ↓zaC, ↓zaP, ↓zaS, ↓zbs, ↓zbW, ↓zx, ↓zap, ↓zK, ↓zr, ↓zaw, zeM, zcl, zcd, unA, zeK, bnd, zfK, zae, zaj, zfy, dm, dm1, zV, zbo, zgx, zgw, keepO, Q0, Q1, Q2, Q3, Q4, Q5, zaz, zG, zi, zau, zY, Q6, Q7, Q8, Q9, Q10, Q11, Q12, Q13, Q14, Nat.reduceAdd, Q15, Int.reduceToNat, Q16, Q17, Q18, Q19, Q20, reduceIte, Q21, Q22, zu, rep, zR, zfV, toD, zab, Q23, Q24, Q25, Q26, Q27, Q28, Nat.reduceLeDiff, Q29, Nat.reduceSub, Q30, Q31, Q32, sc, Q33, Q34, Q35, Q36, Q37, Q26, Q38, Q39, n0gt, n1gt, n2gt, n0eq, zhW, n1eq, n2eq, n0ne, n1ne, zhV, zhX, i0ne, i0eq, Bool.not_true, Bool.not_false, List.length_map, reqD, a] | with_reducible refine andA ?_ | fail); exact h.go) : P := e a ⟨h⟩
theorem zlr (xs : List AV) (n : Nat) (hn : n ≤ 1048576) (h : ArgsOk zgD xs n) : zt Try.prog zeg xs [] fun r _ => r = .d (.bool true) := by
  obtain ⟨ds, xs1, m1, hf, hb1, rfl, ds2, xs2, m2, hf2, hb2, rfl, rfl⟩ := h
  obtain ⟨l, rfl, hl1, hl2⟩ := args_reqs hn hf hb1
  obtain ⟨l', rfl, hl1', hl2'⟩ := args_reqs (n := n) hn hf2 (m := m2) (by omega)
  show zt Try.prog zeg [.d (.slice (reqsE l)), .d (.slice (reqsE l'))] [] _
  clear hf hb1 hf2 hb2
  obtain ⟨σ, hσ⟩ : ∃ σ : List zc, [] = σ := ⟨_, rfl⟩
  rw [hσ]
  refine acE2 zke fun hl => ?_
  have fin : ∀ S, AW.Ends σ.length (fun r _ => r = .d (.bool true)) (some [.d (.bool true)]) S := fun S =>
    zkX (by rw [← hσ]; rfl) (by simp [zgi, dmT, dm, dm1, zcg]) hl rfl
  have hll : (reqsE l).length = l.length := List.length_map ..
  have hll' : (reqsE l').length = l'.length := List.length_map ..
  simp only [zgs, iN, bT, bF, eN, zl0]
  refine c_live07 ?_
  refine gq1 ?_
  refine c_tpNew fun hT => ?_
  refine gq2 hll ?_
  obtain ⟨O0, hO0⟩ : ∃ O0 : Nat → Prop, (fun j => j = σ.length + 1 ∨ j = σ.length) = O0 := ⟨_, rfl⟩
  rw [hO0] at hT
  obtain ⟨S0, hS0⟩ : ∃ S0, σ ++ [zc.map [], zc.box (AV.map σ.length :: zbX zbR.last)] = S0 := ⟨_, rfl⟩
  obtain ⟨id, hid⟩ : ∃ id, σ.length + 1 = id := ⟨_, rfl⟩
  rw [hid, hS0] at hT
  rw [hid, hS0]
  refine zai l.length (fun k vs S => vs = [.d (.int .i64 k)] ∧ ∃ T O, zda S id T O ∧ Good T) ⟨rfl, zbR, O0, hT, good_none⟩ ?_
  rintro k vs S hk ⟨rfl, T, O, hT, hG⟩
  by_cases hlt : k < l.length
  · have hd : decide ((k : Int) < (l.length : Int)) = true := by simp; omega
    have hx : l[k]? = some l[k] := by simp [hlt]
    have hxo := hl2 _ (List.getElem_mem hlt)
    have hgx := zjl (f := reqD) hx
    obtain ⟨x, hxe⟩ : ∃ x, l[k] = x := ⟨_, rfl⟩
    rw [hxe] at hx hgx hxo
    obtain ⟨z1, z2, z3, z4⟩ := zlN hxo
    refine gq32 (zb hd (zb hgx hll)) ?_
    refine zfO (c := x.client) (tm := x.time) (o := x.op) (hT.app _) hG.I (by omega) (by omega) (by omega) (fun r hr => by have := z4 r hr; omega) fun S1 hS1 => ?_
    obtain ⟨O', hT1, _, _⟩ := hS1
    refine gq2 (wkc k (by omega)) ?_
    exact zds.next hlt ⟨rfl, _, O', hT1, hG.apply _ _ _⟩
  · have hd : decide ((k : Int) < (l.length : Int)) = false := by simp; omega
    refine gq2 (zb hd hll) ?_
    refine zgP hT hG.I hG.L ?_
    have hW := good_W hG hT
    obtain ⟨hp1, hp2⟩ := pars_put hW
    have hpo : POk (zeO T) := ⟨by rw [hp1], by rw [hp1]⟩
    have hlen := topsB_len hG.I hG.L hG.h8
    refine gq1 ?_
    refine c_tpParse (b := zeO T) (by omega) (fun h => absurd hpo h) fun _ S1 id2 O2 hT2 hn2 hl2 hpre => ?_
    rw [hp2] at hT2
    have hTa : zda S1 id T O := hT.keep fun j hj => hpre j (hT.own_lt hj)
    have hno : ∀ j, O j → ¬ O2 j := fun j hj h => by have := hT.own_lt hj; have := hn2 j h; omega
    have hJ : BothJ S1 id id2 T O O2 := ⟨hTa, hT2, hno, hG⟩
    refine gq1 ?_
    refine c_NewTable ?_
    obtain ⟨q1, q2, q3, q4⟩ := sumN_nil (zeO T)
    have hJ1 := hJ.app (tabO S1.length [])
    have hTab : zfD (S1 ++ tabO S1.length []) (S1.length + 1) S1.length (S1.length + 2) [] := ⟨by rw [zG]; rfl, by rw [zi]; rfl, by rw [zG]; rfl⟩
    refine gq1 ?_
    refine zmc hJ1.a hG.I hG.L hG.h8 hTab (by simp) ?_
    rw [q1, q2]
    have hTab2 := hTab.put [zeO T]
    have hput : ∀ (S' : List zc) (L' : List (List UInt8)) j, j < S1.length → (putTab S' (S1.length + 1) S1.length (S1.length + 2) L')[j]? = S'[j]? := fun S' L' j hj => by
      unfold putTab
      rw [List.getElem?_set_ne (by omega), List.getElem?_set_ne (by omega), List.getElem?_set_ne (by omega)]
    have keepJ : ∀ (S' : List zc), (∀ j, j < S1.length → S'[j]? = S1[j]?) → BothJ S' id id2 T O O2 := fun S' h =>
      ⟨hJ.a.keep fun j hj => h j (hJ.a.own_lt hj), hJ.b.keep fun j hj => h j (hJ.b.own_lt hj), hJ.no, hG⟩
    have hJ2 := keepJ (putTab (S1 ++ tabO S1.length []) (S1.length + 1) S1.length (S1.length + 2) [zeO T]) fun j hj => (hput _ _ j hj).trans (List.getElem?_append_left hj)
    obtain ⟨S2, hS2⟩ : ∃ S2, putTab (S1 ++ tabO S1.length []) (S1.length + 1) S1.length (S1.length + 2) [zeO T] = S2 := ⟨_, rfl⟩
    rw [hS2] at hTab2 hJ2 ⊢
    refine gq1 ?_
    refine zmc hJ2.b hG.I hG.L hG.h8 hTab2 (by simp) ?_
    rw [q3, q4, hTab2.self]
    refine gq2 (show ((1 : Int) != 1) = false from rfl) ?_
    have hl2S : S1.length ≤ S2.length := by rw [← hS2]; simp [putTab]
    have hk2 : ∀ j, j < S1.length → S2[j]? = S1[j]? := fun j hj => by rw [← hS2]; exact (hput _ _ j hj).trans (List.getElem?_append_left hj)
    refine zt.pre (xs' := [.box S2.length 0, .d (.slice (bcs (zeO T)))]) (σ' := S2 ++ [rtO []]) (.dataB S2.length 0 [.exact []] (.exact []) [] (by rw [zi]; rfl) rfl rfl (by rw [zY]; exact .refl _ _)) ?_
    refine c_rtSum (l := []) (by rw [zi]; rfl) (by omega) (by simp) ?_
    rw [q1, q2]
    have hJ3 := keepJ ((S2 ++ [rtO []]).set S2.length (rtO [zeO T])) fun j hj => by
      rw [List.getElem?_set_ne (by omega), List.getElem?_append_left (by omega)]; exact hk2 j hj
    obtain ⟨S3, hS3⟩ : ∃ S3, (S2 ++ [rtO []]).set S2.length (rtO [zeO T]) = S3 := ⟨_, rfl⟩
    rw [hS3] at hJ3 ⊢
    clear hJ hJ1 hJ2 hTab hTab2 hput keepJ hk2 hT hT2 hTa hno
    refine gq2 (zb (show ((1 : Int) != 1) = false from rfl) hll') ?_
    refine zai l'.length (fun k vs S => vs = [.d (.int .i64 k)] ∧ ∃ T O O2, BothJ S id id2 T O O2) ⟨rfl, T, O, O2, hJ3⟩ ?_
    clear hJ3 hG hW hpo hlen hp1 hp2 q1 q2 q3 q4
    rintro k vs S hk ⟨rfl, T, O, O2, hJ⟩
    by_cases hlt : k < l'.length
    · have hd : decide ((k : Int) < (l'.length : Int)) = true := by simp; omega
      have hx : l'[k]? = some l'[k] := by simp [hlt]
      have hxo := hl2' _ (List.getElem_mem hlt)
      have hgx := zjl (f := reqD) hx
      obtain ⟨x, hxe⟩ : ∃ x, l'[k] = x := ⟨_, rfl⟩
      rw [hxe] at hx hgx hxo
      obtain ⟨z1, z2, z3, z4⟩ := zlN hxo
      refine gq32 (zb hd (zb hgx hll')) ?_
      obtain ⟨B, hB⟩ : ∃ B, zc.box [.d (.int .i64 x.client), .d (.int .i64 x.time), .d (.int .i64 x.op.kind), .d (.str x.op.topic), .d (.str x.op.group), .d (.int .i64 x.op.offset), .d (.slice (zbz x.op.recs))] = B := ⟨_, rfl⟩
      rw [hB]
      have hJ1 := hJ.app [B]
      refine zfO (c := x.client) (tm := x.time) (o := x.op) hJ1.a hJ.g.I (by omega) (by omega) (by omega) (fun r hr => by have := z4 r hr; omega) fun S4 hS4 => ?_
      have hg' := hJ.g.apply x.client x.time x.op
      have hap := (applyP hJ.g.I x.client x.time x.op).2
      obtain ⟨A, hA⟩ : ∃ A, zaB T x.client x.time x.op = A := ⟨_, rfl⟩
      rw [hA] at hS4 hg' hap ⊢
      obtain ⟨O', hT1, hSt, hO'⟩ := hS4
      have gB : S4[S.length]? = some B := hSt.at_ (by rw [zi]; rfl) fun h => by have := hJ.a.own_lt h; omega
      rw [← hB] at gB
      have xB : ∀ τ, (S4 ++ τ)[S.length]? = _ := fun τ => zf gB
      have xl : ∀ a τ, (S4 ++ a :: τ)[S4.length]? = some a := fun a τ => zi ..
      have hb4 : zda S4 id2 T O2 := hJ1.b.keep fun j hj => hSt.get j (fun h => hJ.no j h hj) (hJ1.b.own_lt hj)
      have hno4 : ∀ j, O' j → ¬ O2 j := fun j h1 h2 => (hO' j h1).elim (fun h => hJ.no j h h2) fun h => by have := hJ.b.own_lt h2; simp at h; omega
      refine gq2 (zb xB xl) ?_
      refine zfO (c := x.client) (tm := x.time) (o := x.op) (hb4.app _) hJ.g.I (by omega) (by omega) (by omega) (fun r hr => by have := z4 r hr; omega) fun S5 hS5 => ?_
      rw [hA] at hS5 ⊢
      obtain ⟨O5, hT5, hSt5, hO5⟩ := hS5
      have lS4 := zg gB
      have gR : S5[S4.length]? = some (.box [.d (.int .i64 A.1.1), .d (.int .i64 A.1.2)]) := hSt5.at_ (xl _ _) fun h => by have := hb4.own_lt h; omega
      have yR : ∀ τ, (S5 ++ τ)[S4.length]? = _ := fun τ => zf gR
      have yl : ∀ a τ, (S5 ++ a :: τ)[S5.length]? = some a := fun a τ => zi ..
      have ha5 : zda S5 id A.2.2.2 O' := (hT1.app _).keep fun j hj => hSt5.get j (hno4 j hj) (by have := hT1.own_lt hj; simp; omega)
      have hno5 : ∀ j, O' j → ¬ O5 j := fun j h1 h2 => (hO5 j h2).elim (hno4 j h1) fun h => by have := hT1.own_lt h1; simp at h; omega
      have k6 : zby [AV.d (.int .i64 A.1.1), AV.d (.int .i64 A.1.2)] [AV.d (.int .i64 A.1.1), AV.d (.int .i64 A.1.2)] = some true := by simp [zby]
      have k7 : (A.2.2.1 != A.2.2.1) = false := by simp
      have k8 : (A.2.2.1 == A.2.2.1) = true := by simp
      refine gq2 (zb yR (zb yl (zb k6 (zb k7 k8)))) ?_
      refine zlx (by omega) ?_
      refine gq2 (zb k8 (wkc k (by omega))) ?_
      exact zds.next hlt ⟨rfl, _, O', O5, BothJ.app ⟨ha5, hT5, hno5, hg'⟩ _⟩
    · have hd : decide ((k : Int) < (l'.length : Int)) = false := by simp; omega
      refine gq2 (zb hd hll') ?_
      refine zgP hJ.a hJ.g.I hJ.g.L ?_
      refine gq1 ?_
      refine zgP hJ.b hJ.g.I hJ.g.L ?_
      refine gq1 ?_
      refine zeD ?_
      rw [beq_self_eq_true]
      refine gq1 ?_
      exact fin _
end Go.Proofs.Ytaocmalhjfakdaa
