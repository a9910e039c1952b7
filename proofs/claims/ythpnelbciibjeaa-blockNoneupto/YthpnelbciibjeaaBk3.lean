/- Contracts: a batch is executed, by the program. -/
import Derived.Test.YthpnelbciibjeaaBk1
import Derived.Test.YthpnelbciibjeaaTq8
import Derived.Test.YthpnelbciibjeaaKs8
import Derived.Test.YthpnelbciibjeaaTp7
import Derived.Test.YthpnelbciibjeaaMk3
set_option linter.all false
set_option maxRecDepth 100000
set_option linter.unusedSimpArgs false
set_option linter.unusedVariables false
namespace Go.Proofs.Ythpnelbciibjeaa
open Go.AW

abbrev boxH (h : zfc) : zc := .box [.d (.int .i64 h.seq), .d (.int .i64 h.prev), .d (.int .i64 h.batch), .d (.int .i64 h.root), .d (.int .i64 h.state)]
structure ExOk (L : List (List UInt8)) (T : zaq) (h : zfc) (b : List zh) : Prop where
  chk : zbd h = 0
  seq : h.seq ≠ 9007199254740992
  dig : digE L b = 0
  prev : hdigE (zjN L b) h = 0
  root : (zdi (zhV (zjN L b) h) ((zae T b).1.map zcg)).1 ≠ 0
  state : ziB (zdi (zhV (zjN L b) h) ((zae T b).1.map zcg)).2 (zcQ (zae T b).2) ≠ 0
def exec0 (L : List (List UInt8)) (T : zaq) (h : zfc) (b : List zh) : ExecR :=
  let L2 := zhV (zjN L b) h
  let a := zae T b
  let r := zdi L2 (a.1.map zcg)
  ⟨0, ⟨h.seq + 1, hdigD (zjN L b) h, digD L b, r.1, ziB r.2 (zcQ a.2)⟩, a.1, zfP r.2 (zcQ a.2), a.2⟩
structure BeJ (σ : List zc) (hx : Nat) (H Z P : zc) (id m t : Nat) (L2 : List (List UInt8)) (tid : Nat) (T2 : zaq) (O O2 : Nat → Prop) (S : List zc) : Prop where
  hb : S[σ.length]? = some H
  zb : S[σ.length + 1]? = some Z
  pb : S[hx]? = some P
  tab : zbr S id m t L2
  prg : zeB S tid T2 O2
  no : ∀ j, O2 j → O j ∨ hx + 3 ≤ j
  rest : ∀ (j : Nat) (x : zc), σ[j]? = some x → j ≠ id → j ≠ m → j ≠ t → ¬ O j → S[j]? = some x
theorem zeB.putTab {σ : List zc} {id m t tid : Nat} {L : List (List UInt8)} {T : zaq} {O : Nat → Prop} (h : zeB σ tid T O) (h1 : ¬ O id) (h2 : ¬ O m) (h3 : ¬ O t) : zeB (putTab σ id m t L) tid T O :=
  ((h.set h3 _).set h1 _).set h2 _
section

variable {σ : List zc} {id m t tid : Nat} {L : List (List UInt8)} {T : zaq} {O : Nat → Prop} {h : zfc} {b : List zh} {K : AV → List zc → Prop}

theorem gq30 {A P Q : Prop} (a : A) (h : Q) (e : A → Hd Q → P := by intro a h; (repeat' first | simp -dsimp only [↓ziv, ↓zbi, ↓zcW, ↓zix, ↓zio, ↓zim, ↓ziq, ↓zin, ↓zdb, ↓zcX, ↓zdc, ↓zcY, ↓zir, ↓zcU, ↓zdd, ↓zcZ, ↓zde, ↓zda, ↓zil, ↓ziu, ↓zcS, ↓zdf, ↓zia, ↓zhZ, ↓zij, iN, bT, bF, eN, ↓zeU, ↓unC, ↓zah, ↓zR, ↓zS, ↓zad, ↓zaG, ↓zbl, ↓zea, ↓zaj, ↓zcA, ↓zau, ↓zu, ↓zo, ↓zcT, ↓zi, ↓zax, ↓zac, ↓zbm, ↓zbg, ↓zd, ↓zK, ↓zq, ↓zJ, ↓zaI, ↓zeE, ↓zfi, ↓zat, ↓zaW, ↓zaY, ↓zbC, ↓zck, ↓zG, ↓zaA, ↓zQ, ↓zF, ↓zaE, zfb, zcF, zcr, unA, zfm, bnd, zfY, zap, zaw, zfQ, dm, dm1, zA, zaT, zgP, zgO, zZ, Q0, Q1, Q2, Q3, Q4, Q5, zaD, zI, zr, zav, zW, Q6, Q7, Q8, Q9, Q10, Q11, Q12, Q13, Q14, Nat.reduceAdd, Q15, Int.reduceToNat, Q16, Q17, Q18, Q19, Q20, reduceIte, Q21, Q22, zD, rep, zT, zgN, toD, zan, Q23, Q24, Q25, Q26, Q27, Q28, Nat.reduceLeDiff, Q29, Nat.reduceSub, Q30, Q31, Q32, sc, Q33, Q34, Q35, Q36, Q37, Q26, Q38, Q39, n0gt, n1gt, n2gt, n0eq, zhd, n1eq, n2eq, n0ne, n1ne, zhc, zhe, i0ne, i0eq, Bool.not_true, Bool.not_false, List.length_map, List.length_set, a] | with_reducible refine andA ?_ | fail); exact h.go) : P := e a ⟨h⟩
theorem c_blExecute (hT : zbr σ id m t L) (hI : TabI L) (hP : zeB σ tid T O) (hTI : zdQ T) (hLa : zmn T.last) (n1 : ¬ O id) (n2 : ¬ O m) (n3 : ¬ O t)
    (hx : ∀ s ∈ b, zlx s.op ≤ 20971520) (hbl : b.length ≤ 1073741824) (he : ExOk L T h b)
    (hK : ∀ S O' N, zeB S tid (exec0 L T h b).T O' → zbr S id m t (exec0 L T h b).L → (∀ j, O' j → O j ∨ σ.length ≤ j) → σ.length ≤ S.length → (∀ (j : Nat) (x : zc), σ[j]? = some x → j ≠ id → j ≠ m → j ≠ t → ¬ O j → S[j]? = some x) →
      N.length = b.length → K (.tup [hdrA (exec0 L T h b).h, .d (.slice (zcK (exec0 L T h b).p)), .d (.slice N), .d (.int .i64 0)]) S) :
    zj Try.prog zal [.box id 0, .box tid 0, hdrA h, .d (.slice (zkG b))] σ K := by
  refine zba zdI.is rfl fun hl _ => zdI.goes ?_
  simp only [zdP, iN, bT, bF, eN, zl0, hdrA]
  refine gq1 ?_
  refine zkX (hT.app _) hI ?_
  refine gq1 ?_
  refine c_tpClone (hP.app _) hTI fun S1 id' O1 _ _ hl1 hpre => ?_
  obtain ⟨τ, rfl⟩ : ∃ τ, S1 = (σ ++ [boxH h, boxH zmp]) ++ τ := by
    refine ⟨S1.drop (σ ++ [boxH h, boxH zmp]).length, ?_⟩
    conv => lhs; rw [← List.take_append_drop (σ ++ [boxH h, boxH zmp]).length S1]
    congr 1
    apply List.ext_getElem?
    intro i
    rw [List.getElem?_take]
    split
    · rename_i hi; exact hpre i hi
    · rename_i hi; rw [List.getElem?_eq_none (by omega)]
  clear hpre hl1
  obtain ⟨S1, hS1⟩ : ∃ S1, (σ ++ [boxH h, boxH zmp]) ++ τ = S1 := ⟨_, rfl⟩
  have g0 : S1[σ.length]? = some (boxH h) := by rw [← hS1]; exact zf (by rw [zr]; rfl)
  have g1 : S1[σ.length + 1]? = some (boxH zmp) := by rw [← hS1]; exact zf (by rw [zI]; rfl)
  have hT1 : zbr S1 id m t L := by rw [← hS1]; exact (hT.app _).app _
  have hP1 : zeB S1 tid T O := by rw [← hS1]; exact (hP.app _).app _
  have hr1 : ∀ (j : Nat) (x : zc), σ[j]? = some x → S1[j]? = some x := fun j x h => by rw [← hS1]; exact zf (zf h)
  rw [hS1]
  have el : ∀ X : zc, (σ ++ [X]).length = σ.length + 1 := fun X => by simp
  rw [el]
  refine gq2 g0 ?_
  refine zma (h := h) ?_
  rw [he.chk]
  have hok := zgd.1 he.chk
  have hseq : 0 ≤ h.seq ∧ h.seq ≤ 9007199254740992 := zjm hok _ (by simp [hdrL])
  have w1 : IntKind.i64.wrap (h.seq + 1) = h.seq + 1 := zbJ (by omega) (by omega)
  have hq0 : (h.seq == 9007199254740992) = false := by simpa using he.seq
  have z0 : ((0 : Int) != 0) = false := rfl
  refine gq2 (zg z0 (zg g0 (zg hq0 w1))) ?_
  refine c_rqDigest (hT1.app _) hI hx hbl ?_
  rw [zfV hT1, he.dig]
  have hn1 : id ≠ σ.length ∧ m ≠ σ.length ∧ t ≠ σ.length ∧ id ≠ σ.length + 1 ∧ m ≠ σ.length + 1 ∧ t ≠ σ.length + 1 := by
    have := zl hT.box; have := zl hT.map; have := zl hT.tok; omega
  have hdI : TabI (zjN L b) := hI.dig hx
  have hT2 := hT1.put (zjN L b)
  have hP2 : zeB (putTab S1 id m t (zjN L b)) tid T O := hP1.putTab n1 n2 n3
  have g20 : (putTab S1 id m t (zjN L b))[σ.length]? = _ := (zcb _ (by omega) (by omega) (by omega)).trans g0
  have g21 : (putTab S1 id m t (zjN L b))[σ.length + 1]? = _ := (zcb _ (by omega) (by omega) (by omega)).trans g1
  have hr2 : ∀ (j : Nat) (x : zc), σ[j]? = some x → j ≠ id → j ≠ m → j ≠ t → ¬ O j → (putTab S1 id m t (zjN L b))[j]? = some x := fun j x h a1 a2 a3 _ => (zcb _ a1 a2 a3).trans (hr1 j x h)
  have hl2 := zaN S1 id m t (zjN L b)
  obtain ⟨S2, hS2⟩ : ∃ S2, putTab S1 id m t (zjN L b) = S2 := ⟨_, rfl⟩
  rw [hS2] at hT2 hP2 g20 g21 hr2 hl2 ⊢
  rw [← hl2]
  have g20' : ∀ τ, (S2 ++ τ)[σ.length]? = _ := fun τ => zf g20
  refine gq2 (zg z0 g20') ?_
  refine c_blDigest (h := h) (hT2.app _) hdI ?_
  rw [zfV hT2, he.prev]
  have hdI2 : TabI (zhV (zjN L b) h) := by
    unfold zhV
    split
    · exact hdI
    · exact hdI.sum (by have := hdrB_len hok; omega)
  have hT3 := hT2.put (zhV (zjN L b) h)
  have hP3 : zeB (putTab S2 id m t (zhV (zjN L b) h)) tid T O := hP2.putTab n1 n2 n3
  have g30 : (putTab S2 id m t (zhV (zjN L b) h))[σ.length]? = _ := (zcb _ (by omega) (by omega) (by omega)).trans g20
  have g31 : (putTab S2 id m t (zhV (zjN L b) h))[σ.length + 1]? = _ := (zcb _ (by omega) (by omega) (by omega)).trans g21
  have hr3 : ∀ (j : Nat) (x : zc), σ[j]? = some x → j ≠ id → j ≠ m → j ≠ t → ¬ O j → (putTab S2 id m t (zhV (zjN L b) h))[j]? = some x := fun j x h a1 a2 a3 a4 => (zcb _ a1 a2 a3).trans (hr2 j x h a1 a2 a3 a4)
  have hl3 := zaN S2 id m t (zhV (zjN L b) h)
  obtain ⟨L2, hL2⟩ : ∃ L2, zhV (zjN L b) h = L2 := ⟨_, rfl⟩
  obtain ⟨D2, hD2⟩ : ∃ D2, hdigD (zjN L b) h = D2 := ⟨_, rfl⟩
  obtain ⟨S3, hS3⟩ : ∃ S3, putTab S2 id m t (zhV (zjN L b) h) = S3 := ⟨_, rfl⟩
  rw [hS3] at hT3 hP3 g30 g31 hr3 hl3 ⊢
  rw [hL2] at hT3 hdI2
  rw [← hl3, hD2]
  have hbat : (zkG b).length = b.length := List.length_map ..
  refine gq2 (zg z0 hbat) ?_
  have hlS : σ.length + 2 ≤ S3.length := by have := zl g31; omega
  obtain ⟨hx2, hx2e⟩ : ∃ n, S3.length = n := ⟨_, rfl⟩
  obtain ⟨P, hPe⟩ : ∃ P, zc.box [.d (.int .i64 (h.seq + 1)), .d (.int .i64 D2), .d (.int .i64 (digD L b)), .d (.int .i64 0), .d (.int .i64 0)] = P := ⟨_, rfl⟩
  rw [hPe]
  have hw : zkH [.exact [], .exact [], .d (.int .i64 0)] (S3 ++ [P]) [.own (hx2 + 1) [], .own (hx2 + 2) [], .d (.int .i64 0)] (S3 ++ [P, .tok 3 0, .tok 5 0]) := by
    rw [← hx2e]
    refine .tok 0 [] 3 rfl (by simp) (.tok 1 [] 5 rfl (by simp) ?_)
    simp only [List.length_append, List.length_cons, List.length_nil, List.set_cons_zero, List.set_cons_succ, List.append_assoc, List.cons_append, List.nil_append, Nat.zero_add, Nat.reduceAdd, Nat.add_assoc]
    exact .refl _ _
  refine zds b.length (fun k vs S => ∃ N O2, vs = [.own (hx2 + 1) (zcK (zae T (b.take k)).1), .own (hx2 + 2) N, .d (.int .i64 k)] ∧ N.length = k ∧ (∀ e ∈ N, e.length = 5) ∧ S[hx2 + 1]? = some (.tok 3 (zae T (b.take k)).1.length) ∧ S[hx2 + 2]? = some (.tok 5 k) ∧ BeJ σ hx2 (boxH h) (boxH zmp) P id m t L2 tid (zae T (b.take k)).2 O O2 S) hw
    ⟨[], O, rfl, rfl, by simp, by rw [← hx2e, zI]; rfl, by rw [← hx2e, zI]; rfl, ⟨zf g30, zf g31, by rw [← hx2e, zr]; rfl, hT3.app _, hP3.app _, fun j hj => .inl hj, fun j x a1 a2 a3 a4 a5 => zf (hr3 j x a1 a2 a3 a4 a5)⟩⟩ ?_
  rintro k vs S hk ⟨N, O2, rfl, hN, hN5, hm, hkk, hJ⟩
  have hAI := applyAllI (b.take k) hTI
  have hAP := (zmg (b.take k) hTI).2
  rw [List.length_take, Nat.min_eq_left hk] at hAP
  have hbl2 : b.length ≤ 1000000 := by have := dig_len (L := L) (l := b) he.dig; omega
  by_cases hlt : k < b.length
  · have hd : decide ((k : Int) < (b.length : Int)) = true := by simp; omega
    have hy : b[k]? = some b[k] := by simp [hlt]
    have hys := hx _ (List.getElem_mem hlt)
    obtain ⟨y, hye⟩ : ∃ y, b[k] = y := ⟨_, rfl⟩
    rw [hye] at hy hys
    have hgy := zef (f := zeb) hy
    obtain ⟨z1, z2, z3, z4⟩ := opSz_parts hys
    have hAk := zjy y (b.take k) T
    have hA2 : zae T (b.take (k + 1)) = zae T (b.take k ++ [y]) := by rw [List.take_add_one, hy]; rfl
    rw [hAk] at hA2
    clear hAk
    refine gq23 (zg hd (zg hbat hgy)) ?_
    have hlh := zl hkk
    obtain ⟨B, hB⟩ : ∃ B, zc.box [AV.d (D.int IntKind.i64 y.client), AV.d (D.int IntKind.i64 y.time), AV.d (D.int IntKind.i64 y.op.kind), AV.d (D.str y.op.topic), AV.d (D.str y.op.group), AV.d (D.int IntKind.i64 y.op.offset), AV.d (D.slice (zbK y.op.recs)), AV.d (D.int IntKind.i64 y.key), AV.d (D.int IntKind.i64 y.dig)] = B := ⟨_, rfl⟩
    rw [hB]
    refine c_tpApply (c := y.client) (tm := y.time) (o := y.op) (hJ.prg.app _) hAI (by omega) (by omega) (by omega) (fun r hr => by have := z4 r hr; omega) fun S' hS' => ?_
    obtain ⟨A, hA⟩ : ∃ A, zae T (b.take k) = A := ⟨_, rfl⟩
    rw [hA] at hJ hAI hAP hS' hA2 hm ⊢
    obtain ⟨hap1, hap2⟩ := applyP hAI y.client y.time y.op
    obtain ⟨D, hD⟩ : ∃ D, zbO A.2 y.client y.time y.op = D := ⟨_, rfl⟩
    rw [hD] at hA2 hS' hap1 hap2 ⊢
    obtain ⟨O3, hT', hSt, hO3⟩ := hS'
    have hOσ : ∀ j, O2 j → j < σ.length ∨ hx2 + 3 ≤ j := fun j hj => (hJ.no j hj).imp_left fun h => hP.own_lt h
    have hno : ∀ j, O3 j → O j ∨ hx2 + 3 ≤ j := fun j hj => by
      rcases hO3 j hj with h | h
      · exact hJ.no j h
      · simp at h; omega
    have hlt3 : ∀ j, O3 j → j < σ.length ∨ hx2 + 3 ≤ j := fun j hj => (hno j hj).imp_left fun h => hP.own_lt h
    have keep : ∀ j x, S[j]? = some x → (σ.length ≤ j ∧ j < hx2 + 3) → S'[j]? = some x := fun j x h1 h2 => hSt.at_ (zf h1) fun h => by have := hOσ j h; omega
    have keepT : ∀ j x, S[j]? = some x → j < σ.length → ¬ O j → S'[j]? = some x := fun j x h1 h2 h3 => hSt.at_ (zf h1) fun h => by
      rcases hJ.no j h with h | h
      · exact h3 h
      · omega
    have li := zl hT.box; have lm := zl hT.map; have lt' := zl hT.tok
    have e0 := keep _ _ hJ.hb (by omega)
    have e1 := keep _ _ hJ.zb (by omega)
    have e2 := keep _ _ hJ.pb (by omega)
    have e3 := keep _ _ hm (by omega)
    have e4 := keep _ _ hkk (by omega)
    have eB : S'[S.length]? = some B := hSt.at_ (by rw [zr]; rfl) fun h => by have := hJ.prg.own_lt h; omega
    rw [← hB] at eB
    have l3 := zl e3; have l4 := zl e4; have lB := zl eB
    have x3 : ∀ τ, (S' ++ τ)[hx2 + 1]? = _ := fun τ => zf e3
    have y3 : ∀ τ Y, (S' ++ τ).set (hx2 + 1) Y = S'.set (hx2 + 1) Y ++ τ := fun τ Y => List.set_append_left _ _ l3
    have x4 : ∀ τ Y, (S'.set (hx2 + 1) Y ++ τ)[hx2 + 2]? = _ := fun τ Y => zf ((List.getElem?_set_ne (by omega)).trans e4)
    have y4 : ∀ τ Y Z, (S'.set (hx2 + 1) Y ++ τ).set (hx2 + 2) Z = (S'.set (hx2 + 1) Y).set (hx2 + 2) Z ++ τ := fun τ Y Z => List.set_append_left _ _ (by simpa using l4)
    have zB : ∀ τ Y, (S'.set (hx2 + 1) Y ++ τ)[S.length]? = _ := fun τ Y => zf ((List.getElem?_set_ne (by omega)).trans eB)
    have z5 : ∀ Y a τ, (S'.set (hx2 + 1) Y ++ a :: τ)[S'.length]? = some a := fun Y a τ => by rw [List.getElem?_append_right (by simp)]; simp
    refine gq30 (zg hbat (zg x3 (zg y3 (zg x4 (zg y4 (zg zB (zg z5 (zg hN (wkc k (by omega)))))))))) ?_
    have g3 : ∀ (j : Nat) (x : zc), j ≠ hx2 + 1 → j ≠ hx2 + 2 → S'[j]? = some x → ∀ X Y τ, ((S'.set (hx2 + 1) X).set (hx2 + 2) Y ++ τ)[j]? = some x := fun j x h3 h4 h X Y τ => zf (by rw [List.getElem?_set_ne (Ne.symm h4), List.getElem?_set_ne (Ne.symm h3)]; exact h)
    refine zcd.next hlt ⟨N ++ [[.int .i64 y.client, .int .i64 y.time, .int .i64 D.1.1, .int .i64 D.1.2, .bool D.2.2.1]], O3, ?_, by simp [hN], ?_, ?_, ?_, ⟨g3 _ _ (by omega) (by omega) e0 _ _ _, g3 _ _ (by omega) (by omega) e1 _ _ _, g3 _ _ (by omega) (by omega) e2 _ _ _,
      ⟨g3 _ _ (by omega) (by omega) (keepT _ _ hJ.tab.box li n1) _ _ _, g3 _ _ (by omega) (by omega) (keepT _ _ hJ.tab.map lm n2) _ _ _, g3 _ _ (by omega) (by omega) (keepT _ _ hJ.tab.tok lt' n3) _ _ _⟩, ?_, hno, fun j x a1 a2 a3 a4 a5 => ?_⟩⟩
    · rw [hA2]; simp
    · intro e he
      rcases List.mem_append.1 he with he | he
      · exact hN5 e he
      · simp only [List.mem_singleton] at he; subst he; rfl
    · refine zf ?_
      rw [List.getElem?_set_ne (by omega), List.getElem?_set_self l3, hA2]; simp
    · refine zf ?_
      rw [List.getElem?_set_self (by simpa using l4)]
    · rw [hA2]
      exact ((hT'.set (fun h => by have := hlt3 _ h; omega) _).set (fun h => by have := hlt3 _ h; omega) _).app _
    · have hj := zl a1
      exact g3 _ _ (by omega) (by omega) (keepT _ _ (hJ.rest j x a1 a2 a3 a4 a5) hj a5) _ _ _
  · have hd : decide ((k : Int) < (b.length : Int)) = false := by simp; omega
    have hko : b.take k = b := List.take_of_length_le (by omega)
    rw [hko] at hJ hAI hAP hm ⊢
    refine gq2 (zg hd hbat) ?_
    have hAL := applyAllL b hTI hLa
    have hAQ := (zmg b hTI).1
    have hroot := he.root; have hstate := he.state
    have hex : exec0 L T h b = ⟨0, ⟨h.seq + 1, D2, digD L b, (zdi L2 ((zae T b).1.map zcg)).1, ziB (zdi L2 ((zae T b).1.map zcg)).2 (zcQ (zae T b).2)⟩, (zae T b).1, zfP (zdi L2 ((zae T b).1.map zcg)).2 (zcQ (zae T b).2), (zae T b).2⟩ := by
      unfold exec0
      dsimp only
      rw [hL2, hD2]
    rw [hL2] at hroot hstate
    rw [hex] at hK
    dsimp only at hK
    obtain ⟨A, hA⟩ : ∃ A, zae T b = A := ⟨_, rfl⟩
    rw [hA] at hJ hAI hAP hm hAL hAQ hroot hstate hK ⊢
    have hsm : ∀ p ∈ A.1, znw p := fun p hp => ⟨⟨by have := (hAQ p hp).1; omega, by have := (hAQ p hp).2.1; omega⟩, by have := (hAQ p hp).2.2.1; omega, by have := (hAQ p hp).2.2.2; omega⟩
    refine c_blLeaves (l := A.1) (by omega) hsm ?_
    refine gq1 ?_
    refine c_mkRoot (l := A.1.map zcg) hJ.tab hdI2.len (by simp; omega) (fun x hx => ?_) ?_
    · obtain ⟨p, hp, rfl⟩ := List.mem_map.1 hx
      exact placedB_len' (hAQ p hp)
    obtain ⟨r, hr⟩ : ∃ r, zdi L2 (A.1.map zcg) = r := ⟨_, rfl⟩
    have hr2 : r.2.length ≤ 1048576 := by rw [← hr]; exact (zfS _ (Nat.le_refl _) hdI2.len).1
    rw [hr] at hroot hstate hK ⊢
    have li := zl hT.box; have lm := zl hT.map; have lt' := zl hT.tok
    have hOσ : ∀ j, O2 j → j < σ.length ∨ hx2 + 3 ≤ j := fun j hj => (hJ.no j hj).imp_left fun h => hP.own_lt h
    have o1 : ¬ O2 id := fun h => (hJ.no _ h).elim n1 fun h => by omega
    have o2 : ¬ O2 m := fun h => (hJ.no _ h).elim n2 fun h => by omega
    have o3 : ¬ O2 t := fun h => (hJ.no _ h).elim n3 fun h => by omega
    have hT4 := hJ.tab.put r.2
    have hP4 : zeB (putTab S id m t r.2) tid A.2 O2 := hJ.prg.putTab o1 o2 o3
    have g40 : (putTab S id m t r.2)[σ.length + 1]? = _ := (zcb _ (by omega) (by omega) (by omega)).trans hJ.zb
    have g41 : (putTab S id m t r.2)[hx2]? = _ := (zcb _ (by omega) (by omega) (by omega)).trans hJ.pb
    have hr4 : ∀ (j : Nat) (x : zc), σ[j]? = some x → j ≠ id → j ≠ m → j ≠ t → ¬ O j → (putTab S id m t r.2)[j]? = some x := fun j x h a1 a2 a3 a4 => (zcb _ a1 a2 a3).trans (hJ.rest j x h a1 a2 a3 a4)
    have hlen4 := zaN S id m t r.2
    have hl0 := zl hkk
    obtain ⟨S4, hS4⟩ : ∃ S4, putTab S id m t r.2 = S4 := ⟨_, rfl⟩
    rw [hS4] at hT4 hP4 g40 g41 hr4 hlen4 ⊢
    rw [hx2e]
    refine gq1 ?_
    refine zhn ?_
    have k1 : (givE r.1 != 0) = false := by rw [givE, if_neg hroot]; rfl
    rw [← hPe] at g41
    refine gq2 (zg g41 k1) ?_
    have hT5 : ∀ Y, zbr (S4.set hx2 Y) id m t r.2 := fun Y => ⟨(List.getElem?_set_ne (by omega)).trans hT4.box, (List.getElem?_set_ne (by omega)).trans hT4.map, (List.getElem?_set_ne (by omega)).trans hT4.tok⟩
    have hP5 : ∀ Y, zeB (S4.set hx2 Y) tid A.2 O2 := fun Y => hP4.set (fun h => by have := hOσ _ h; omega) Y
    refine znh (hT5 _) hr2 (hP5 _) hAI hAL ?_
    have hT6 := (hT5 (zc.box [.d (.int .i64 (h.seq + 1)), .d (.int .i64 D2), .d (.int .i64 (digD L b)), .d (.int .i64 r.1), .d (.int .i64 0)])).put (zfP r.2 (zcQ A.2))
    have hP6 := (hP5 (zc.box [.d (.int .i64 (h.seq + 1)), .d (.int .i64 D2), .d (.int .i64 (digD L b)), .d (.int .i64 r.1), .d (.int .i64 0)])).putTab (L := zfP r.2 (zcQ A.2)) o1 o2 o3
    have lx := zl g41
    have g60 : (putTab (S4.set hx2 (zc.box [.d (.int .i64 (h.seq + 1)), .d (.int .i64 D2), .d (.int .i64 (digD L b)), .d (.int .i64 r.1), .d (.int .i64 0)])) id m t (zfP r.2 (zcQ A.2)))[σ.length + 1]? = some (boxH zmp) := (zcb _ (by omega) (by omega) (by omega)).trans ((List.getElem?_set_ne (by omega)).trans g40)
    have g61 : (putTab (S4.set hx2 (zc.box [.d (.int .i64 (h.seq + 1)), .d (.int .i64 D2), .d (.int .i64 (digD L b)), .d (.int .i64 r.1), .d (.int .i64 0)])) id m t (zfP r.2 (zcQ A.2)))[hx2]? = some (zc.box [.d (.int .i64 (h.seq + 1)), .d (.int .i64 D2), .d (.int .i64 (digD L b)), .d (.int .i64 r.1), .d (.int .i64 0)]) := (zcb _ (by omega) (by omega) (by omega)).trans (List.getElem?_set_self lx)
    have hr6 : ∀ (j : Nat) (x : zc), σ[j]? = some x → j ≠ id → j ≠ m → j ≠ t → ¬ O j → (putTab (S4.set hx2 (zc.box [.d (.int .i64 (h.seq + 1)), .d (.int .i64 D2), .d (.int .i64 (digD L b)), .d (.int .i64 r.1), .d (.int .i64 0)])) id m t (zfP r.2 (zcQ A.2)))[j]? = some x := fun j x h a1 a2 a3 a4 => (zcb _ a1 a2 a3).trans ((List.getElem?_set_ne (by have := zl h; omega)).trans (hr4 j x h a1 a2 a3 a4))
    have hl6 : (putTab (S4.set hx2 (zc.box [.d (.int .i64 (h.seq + 1)), .d (.int .i64 D2), .d (.int .i64 (digD L b)), .d (.int .i64 r.1), .d (.int .i64 0)])) id m t (zfP r.2 (zcQ A.2))).length = S4.length := by rw [zaN]; simp
    obtain ⟨S6, hS6⟩ : ∃ S6, putTab (S4.set hx2 (zc.box [.d (.int .i64 (h.seq + 1)), .d (.int .i64 D2), .d (.int .i64 (digD L b)), .d (.int .i64 r.1), .d (.int .i64 0)])) id m t (zfP r.2 (zcQ A.2)) = S6 := ⟨_, rfl⟩
    rw [hS6] at hT6 hP6 g60 g61 hr6 hl6 ⊢
    clear hS6
    obtain ⟨d, hd'⟩ : ∃ d, ziB r.2 (zcQ A.2) = d := ⟨_, rfl⟩
    obtain ⟨L3, hL3⟩ : ∃ L3, zfP r.2 (zcQ A.2) = L3 := ⟨_, rfl⟩
    rw [hd'] at hstate hK ⊢
    rw [hL3] at hT6 hK
    have k2 : (givE d != 0) = false := by rw [givE, if_neg hstate]; rfl
    have l7 := zl g61; have l8 := zl g60
    have g62 : ∀ Y, (S6.set hx2 Y)[hx2]? = some Y := fun Y => List.getElem?_set_self l7
    have g63 : ∀ Y, (S6.set hx2 Y)[σ.length + 1]? = some (boxH zmp) := fun Y => (List.getElem?_set_ne (by omega)).trans g60
    have g64 : ∀ Y Z, ((S6.set hx2 Y).set (σ.length + 1) Z)[σ.length + 1]? = some Z := fun Y Z => List.getElem?_set_self (by simpa using l8)
    refine gq1 ?_
    refine zhn ?_
    refine gq2 (zg g61 (zg g62 (zg g63 (zg g64 k2)))) ?_
    refine zbE ?_
    refine hK _ O2 N ((hP6.set (fun h => by have := hOσ _ h; omega) _).set (fun h => by have := hOσ _ h; omega) _) ⟨?_, ?_, ?_⟩ (fun j hj => (hJ.no j hj).imp_right fun h => by omega) (by simp; omega) (fun j x h a1 a2 a3 a4 => ?_) (by omega)
    · rw [List.getElem?_set_ne (by omega), List.getElem?_set_ne (by omega)]; exact hT6.box
    · rw [List.getElem?_set_ne (by omega), List.getElem?_set_ne (by omega)]; exact hT6.map
    · rw [List.getElem?_set_ne (by omega), List.getElem?_set_ne (by omega)]; exact hT6.tok
    · have := zl h
      rw [List.getElem?_set_ne (by omega), List.getElem?_set_ne (by omega)]
      exact hr6 j x h a1 a2 a3 a4
end

end Go.Proofs.Ythpnelbciibjeaa
