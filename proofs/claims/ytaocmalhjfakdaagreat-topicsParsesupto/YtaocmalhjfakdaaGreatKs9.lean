/- Contracts: topics' reader: numbers, names, what a client was told last. -/
import Derived.Test.YtaocmalhjfakdaaGreatRd1
import Derived.Test.YtaocmalhjfakdaaGreatAwEnd
import Derived.Test.YtaocmalhjfakdaaGreatSpParse
import Derived.Test.YtaocmalhjfakdaaGreatKs4
set_option linter.all false
set_option maxRecDepth 100000
set_option linter.unusedSimpArgs false
set_option linter.unusedVariables false
namespace Go.Proofs.YtaocmalhjfakdaaGreat
open Go.AW

structure RdA (σ : List zc) (id : Nat) (s : Rd) : Prop where
  at_ : ∃ c, σ[id]? = some (rdO c s.e) ∧ Cell c s.b
  len : s.b.length ≤ 1073741824
structure Rst (σ S : List zc) (id : Nat) : Prop where
  len : σ.length ≤ S.length
  get : ∀ j, j ≠ id → j < σ.length → S[j]? = σ[j]?
theorem Rst.trans {σ S R : List zc} {id : Nat} (h : Rst σ S id) (h' : Rst S R id) : Rst σ R id := ⟨Nat.le_trans h.len h'.len, fun j h1 h2 => (h'.get j h1 (by have := h.len; omega)).trans (h.get j h1 h2)⟩
theorem Rst.set (σ : List zc) (id : Nat) (X : zc) (τ : List zc) : Rst σ (σ.set id X ++ τ) id := ⟨by simp, fun j h1 h2 => by rw [List.getElem?_append_left (by simpa using h2), List.getElem?_set_ne (Ne.symm h1)]⟩
theorem Rst.set0 (σ : List zc) (id : Nat) (X : zc) : Rst σ (σ.set id X) id := ⟨by simp, fun j h1 h2 => by rw [List.getElem?_set_ne (Ne.symm h1)]⟩
theorem Rst.app (σ τ : List zc) (id : Nat) : Rst σ (σ ++ τ) id := ⟨by simp, fun j h1 h2 => List.getElem?_append_left h2⟩
theorem Rst.at_ {σ S : List zc} {id j : Nat} {x : zc} (h : Rst σ S id) (hx : σ[j]? = some x) (hj : j ≠ id) : S[j]? = some x := (h.get j hj (zg hx)).trans hx
theorem RdA.lt {σ : List zc} {id : Nat} {s : Rd} (h : RdA σ id s) : id < σ.length := by
  obtain ⟨⟨c, h1, h2⟩, h3⟩ := h
  exact zg h1
theorem RdA.app {σ : List zc} {id : Nat} {s : Rd} (h : RdA σ id s) (τ : List zc) : RdA (σ ++ τ) id s := by
  obtain ⟨⟨c, h1, h2⟩, h3⟩ := h
  exact ⟨⟨c, zf h1, h2⟩, h3⟩
theorem RdA.keep {σ S : List zc} {id : Nat} {s : Rd} (h : RdA σ id s) (hs : S[id]? = σ[id]?) : RdA S id s := by
  obtain ⟨⟨c, h1, h2⟩, h3⟩ := h
  exact ⟨⟨c, hs.trans h1, h2⟩, h3⟩
section

variable {σ : List zc} {id : Nat} {s : Rd} {K : KT}

theorem c_NumA {m : Nat} (hm : m < 18446744073709551616) (h : RdA σ id s) (hK : ∀ S, RdA S id (zax false m s).2 → Rst σ S id → K (.d (.int .u64 (zax false m s).1)) S) : zn Tryz.prog zcb [.box id 0, .d (.int .u64 m)] σ K := by
  obtain ⟨⟨c, h1, h2⟩, h3⟩ := h
  have hlt := zg h1
  exact c_Num hm h1 h2 h3 fun c' _ hc' => hK _ ⟨⟨c', List.getElem?_set_self hlt, hc'⟩, by have := zpa m s; omega⟩ (.set0 _ _ _)
theorem c_BytesA {m : Nat} (hm : m < 9223372036854775808) (h : RdA σ id s) (hK : ∀ S, RdA S id (zaJ false m s).2 → Rst σ S id → K (.d (.slice (bcs (zaJ false m s).1))) S) : zn Tryz.prog zbG [.box id 0, .d (.int .i64 m)] σ K := by
  obtain ⟨⟨c, h1, h2⟩, h3⟩ := h
  have hlt := zg h1
  exact c_rdBytes hm h1 h2 h3 fun c' _ hc' => hK _ ⟨⟨c', List.getElem?_set_self hlt, hc'⟩, by have := bytesP_len m s; omega⟩ (.set0 _ _ _)
theorem zaq {f : Int} (h : RdA σ id s) (hK : ∀ S, RdA S id (s.fail false f) → Rst σ S id → K (.tup []) S) : zn Tryz.prog zR [.box id 0, .d (.int .i64 f)] σ K := by
  obtain ⟨⟨c, h1, h2⟩, h3⟩ := h
  have hlt := zg h1
  have hb : (s.fail false f).b = s.b := by unfold Rd.fail; split <;> rfl
  exact c_Fail h1 (hK _ ⟨⟨c, by rw [List.getElem?_set_self hlt, fail_e], by rw [hb]; exact h2⟩, by rw [hb]; exact h3⟩ (.set0 _ _ _))
theorem zgQ {m : Int} (h0 : 0 ≤ m) (hm : m ≤ 9007199254740992) (h : RdA σ id s) (hK : ∀ S, RdA S id (zax false m.toNat s).2 → Rst σ S id → K (.d (.int .i64 (zax false m.toNat s).1)) S) : zn Tryz.prog zan [.agg [.box id 0], .d (.int .i64 m)] σ K := by
  refine zaj zgh.is rfl fun hl _ => zgh.goes ?_
  have hmax : (if m > 0 then m else 0) = (m.toNat : Int) := by split <;> omega
  have hw : IntKind.u64.wrap (m.toNat : Int) = (m.toNat : Int) := zcH (by omega)
  have hle := zaX false m.toNat s
  have hw2 : IntKind.i64.wrap (((zax false m.toNat s).1 : Nat) : Int) = (((zax false m.toNat s).1 : Nat) : Int) := zam (by omega) (by omega)
  simp only [zgo, iN, bT, bF, eN]
  refine zt (zb hmax hw) ?_
  refine c_NumA (by omega) (h.app _) fun S hS hR => ?_
  refine zt hw2 ?_
  exact zaO (hK S hS ((Rst.app _ _ _).trans hR))
theorem zmD (t a : List UInt8) : (Op.bytesLess t a || t == a) = !Op.bytesLess a t := by
  cases h : Op.bytesLess a t
  · cases h2 : Op.bytesLess t a
    · have : t = a := by
        apply Decidable.byContradiction
        intro hne
        have := ltN_total (a := t) (b := a) (by rw [ltN, h2]; simp) hne
        rw [ltN, h] at this; cases this
      simp [this]
    · simp
  · cases h2 : Op.bytesLess t a
    · have : t ≠ a := fun e => by subst e; exact zgO t h
      simp [this]
    · exact absurd (zen (a := t) h2 h) (zgO t)
theorem gq38 {P Q : Prop} (h : Q) (e : Hd Q → P := by intro h; (repeat' first | simp -dsimp only [↓zhB, ↓zbf, ↓zcv, ↓zhC, ↓zhx, ↓zhv, ↓zhy, ↓zhw, ↓zcA, ↓zcw, ↓zcB, ↓zcx, ↓zhz, ↓zcu, ↓zcC, ↓zcy, ↓zcD, ↓zcz, ↓zhu, ↓zhA, ↓zct, ↓zcE, ↓zhs, ↓zhr, ↓zht, iN, bT, bF, eN, ↓zea, ↓unC, ↓zad, ↓zN, ↓zO, ↓zU, ↓zaw, ↓zbe, ↓zdk, ↓zaa, ↓zcX, ↓zai, ↓zk, ↓zi, ↓zbE, ↓zh, ↓zar, ↓zC, ↓zbb, ↓zbp, ↓ze, ↓zy, ↓zq, ↓zr, ↓zaA, ↓zeC, ↓zeS, ↓zaI, ↓zaT, ↓zbd, ↓zbF, ↓zbU, ↓zx, ↓zav, ↓zL, ↓zA, ↓zau, zeH, zcn, zcf, unA, zeV, bnd, zfP, zah, zX, zft, dm, dm1, zp, zaG, zgx, zgw, zS, Q0, Q1, Q2, Q3, Q4, Q5, zap, zE, zj, zat, zP, Q6, Q7, Q8, Q9, Q10, Q11, Q12, Q13, Q14, Nat.reduceAdd, Q15, Int.reduceToNat, Q16, Q17, Q18, Q19, Q20, reduceIte, Q21, Q22, zo, rep, zab, zgT, toD, zao, Q23, Q24, Q25, Q26, Q27, Q28, Nat.reduceLeDiff, Q29, Nat.reduceSub, Q30, Q31, Q32, sc, Q33, Q34, Q35, Q36, Q37, Q26, Q38, Q39, n0gt, n1gt, n2gt, n0eq, zjQ, n1eq, n2eq, n0ne, n1ne, zjP, zjR, i0ne, i0eq, Bool.not_true, Bool.not_false, List.length_map, Bool.and_false, Bool.and_self, Bool.false_and, Bool.not_false, Bool.not_true, Bool.true_and, Int.toNat_natCast, Int.toNat_zero, List.drop_zero, List.length_map, List.length_nil, List.nil_append, List.take_length, Nat.sub_zero, Nat.zero_add, Option.isSome_none, Option.isSome_some, Option.map_none, Option.map_some, zbM, beq_self_eq_true, bne_self_eq_false, zkh, zer, zep, zbd, zlu, zbF] | with_reducible refine andA ?_ | fail); exact h.go) : P := e ⟨h⟩
theorem zpq {above : List UInt8} (h : RdA σ id s) (hK : ∀ S, RdA S id (zdr above s).2 → Rst σ S id → K (.d (.str (zdr above s).1)) S) : zn Tryz.prog zco [.agg [.box id 0], .d (.str above)] σ K := by
  refine zaj zfv.is rfl fun hl _ => zfv.goes ?_
  have hid := h.lt
  simp only [zfD, iN, bT, bF, eN]
  refine zby ?_
  refine c_BytesA (m := 64) (by omega) (h.app _) fun S hS hR => ?_
  have hbl := zeY false 64 s
  obtain ⟨t, ht⟩ : ∃ t, zaJ false 64 s = t := ⟨_, rfl⟩
  rw [ht] at hS hbl ⊢
  have gb : S[σ.length]? = some (.box [.box id 0]) := hR.at_ (by rw [zj]; rfl) (by omega)
  refine gq38 ?_
  refine c_Name (by omega) ?_
  have hn : zdr above s = if zaZ t.1 = true ∧ Op.bytesLess above t.1 = true then t else (t.1, t.2.fail false 70) := by rw [zdr, ht]
  rw [hn] at hK
  cases c1 : zaZ t.1
  · rw [if_neg (by simp [c1])] at hK
    refine zt (zb c1 gb) ?_
    refine zaq hS fun S' hS' hR' => ?_
    refine zby ?_
    exact zaO (hK S' hS' (((Rst.app _ _ _).trans hR).trans hR'))
  · cases c2 : Op.bytesLess above t.1
    · rw [if_neg (by simp [c2])] at hK
      have c3 := zmD t.1 above
      rw [c2] at c3
      refine zt (zb c1 (zb c3 gb)) ?_
      refine zaq hS fun S' hS' hR' => ?_
      refine zby ?_
      exact zaO (hK S' hS' (((Rst.app _ _ _).trans hR).trans hR'))
    · rw [if_pos ⟨c1, c2⟩] at hK
      have c3 := zmD t.1 above
      rw [c2] at c3
      refine zt (zb c1 (zb c3 gb)) ?_
      exact zaO (hK S hS ((Rst.app _ _ _).trans hR))
theorem c_rdLast (h : RdA σ id s) (hK : ∀ S, RdA S id (zbh s).2 → Rst σ S id → K (.agg [.d (.int .i64 (zbh s).1.1), .d (.int .i64 (zbh s).1.2.1), .d (.int .i64 (zbh s).1.2.2)]) S) : zn Tryz.prog zdD [.agg [.box id 0]] σ K := by
  refine zaj zfw.is rfl fun hl _ => zfw.goes ?_
  have hid := h.lt
  simp only [zfE, iN, bT, bF, eN]
  refine zby ?_
  refine zgQ (m := 9007199254740992) (by omega) (by omega) (h.app _) fun S1 hS1 hR1 => ?_
  have hP : ∀ t e o, zax false 9007199254740992 s = t → zax false 65536 t.2 = e → zax false 9007199254740992 e.2 = o → zbh s = (((t.1 : Int), (e.1 : Int), (o.1 : Int)), if t.1 = 0 ∧ ¬ (e.1 = 0 ∧ o.1 = 0) then (if zdb e.1 = true ∧ (e.1 = 0 ∨ o.1 = 0) then o.2 else o.2.fail false 70).fail false 70 else (if zdb e.1 = true ∧ (e.1 = 0 ∨ o.1 = 0) then o.2 else o.2.fail false 70)) := by
    rintro _ _ _ rfl rfl rfl; rfl
  rw [show (9007199254740992 : Int).toNat = 9007199254740992 from rfl] at hS1 ⊢
  obtain ⟨t, ht⟩ : ∃ t, zax false 9007199254740992 s = t := ⟨_, rfl⟩
  rw [ht] at hS1 ⊢
  have a0 : S1[σ.length]? = some (.box [.box id 0]) := hR1.at_ (by rw [zj]; rfl) (by omega)
  have a1 : S1[σ.length + 1]? = some (.box [.d (.int .i64 0), .d (.int .i64 0), .d (.int .i64 0)]) := hR1.at_ (by rw [zE]; rfl) (by omega)
  have b0 : ∀ τ, (S1 ++ τ)[σ.length]? = _ := fun τ => zf a0
  have b2 : ∀ a τ, (S1 ++ a :: τ)[S1.length]? = some a := fun a τ => zj ..
  have l1 := zg a1
  refine zt (zb a0 (zb b0 b2)) ?_
  refine zgQ (m := 65536) (by omega) (by omega) (hS1.app _) fun S2 hS2 hR2 => ?_
  rw [show (65536 : Int).toNat = 65536 from rfl] at hS2 ⊢
  obtain ⟨e, he⟩ : ∃ e, zax false 65536 t.2 = e := ⟨_, rfl⟩
  rw [he] at hS2 ⊢
  have c0 : S2[σ.length]? = _ := hR2.at_ (b0 _) (by omega)
  have c1 : S2[σ.length + 1]? = _ := hR2.at_ (zf a1) (by omega)
  have c2 : S2[S1.length]? = _ := hR2.at_ (b2 _ _) (by have := hS1.lt; omega)
  refine zt (zb c0 b0) ?_
  refine zgQ (m := 9007199254740992) (by omega) (by omega) hS2 fun S3 hS3 hR3 => ?_
  rw [show (9007199254740992 : Int).toNat = 9007199254740992 from rfl] at hS3 ⊢
  obtain ⟨o, ho⟩ : ∃ o, zax false 9007199254740992 e.2 = o := ⟨_, rfl⟩
  rw [ho] at hS3 ⊢
  have d0 : S3[σ.length]? = _ := hR3.at_ c0 (by omega)
  have d1 : S3[σ.length + 1]? = _ := hR3.at_ c1 (by omega)
  have d2 : S3[S1.length]? = _ := hR3.at_ c2 (by have := hS1.lt; omega)
  have hL := hP t e o ht he ho
  clear hP
  have hR : Rst σ S3 id := (((Rst.app _ _ _).trans hR1).trans ((Rst.app _ _ _).trans hR2)).trans hR3
  have hS1id := hS1.lt
  have l3 := zg d2
  have e1 : (σ ++ [zc.box [AV.box id 0]]).length = σ.length + 1 := by simp
  have hlS := zg d1
  have ne3 : ∀ Y j, j ≠ S1.length → (S3.set S1.length Y)[j]? = S3[j]? := fun Y j hj => List.getElem?_set_ne (Ne.symm hj)
  have f0 : ∀ Y, (S3.set S1.length Y)[σ.length]? = _ := fun Y => (ne3 Y _ (by omega)).trans d0
  have f1 : ∀ Y, (S3.set S1.length Y)[σ.length + 1]? = _ := fun Y => (ne3 Y _ (by omega)).trans d1
  have f2 : ∀ Y, (S3.set S1.length Y)[S1.length]? = some Y := fun Y => List.getElem?_set_self l3
  have hSf : ∀ Y, RdA (S3.set S1.length Y) id o.2 := fun Y => hS3.keep (ne3 Y _ (by omega))
  have hs1 := hR1.len
  simp only [List.length_append, List.length_cons, List.length_nil] at hs1
  have hRf : ∀ Y, Rst σ (S3.set S1.length Y) id := fun Y => ⟨by simpa using hR.len, fun j h1 h2 => (ne3 Y j (by omega)).trans (hR.get j h1 h2)⟩
  have f3 : ∀ Y Z, ((S3.set S1.length Y).set (σ.length + 1) Z)[σ.length + 1]? = some Z := fun Y Z => List.getElem?_set_self (by simpa using hlS)
  have hie : zcl [AV.d (.int .i64 (e.1 : Int)), AV.d (.int .i64 (o.1 : Int))] [AV.d (.int .i64 0), AV.d (.int .i64 0)] = some (decide (e.1 = 0 ∧ o.1 = 0)) := by
    by_cases h1 : e.1 = 0 <;> by_cases h2 : o.1 = 0 <;> simp [zcl, h1, h2]
  have hz1 : (zbh s).1 = ((t.1 : Int), (e.1 : Int), (o.1 : Int)) := by rw [hL]
  have fin : ∀ S5 (X : Rd) Z, RdA S5 id X → Rst σ S5 id → σ.length + 1 < S5.length → (∀ S, RdA S id X → Rst σ S id → K (.agg [.d (.int .i64 t.1), .d (.int .i64 e.1), .d (.int .i64 o.1)]) S) → zli K (some [.agg [.d (.int .i64 t.1), .d (.int .i64 e.1), .d (.int .i64 o.1)]]) (S5.set (σ.length + 1) Z) := fun S5 X Z h1 h2 h3 h4 =>
    zaO (h4 _ (h1.keep (List.getElem?_set_ne (by omega))) ⟨by simpa using h2.len, fun j h5 h6 => by rw [List.getElem?_set_ne (by omega)]; exact h2.get j h5 h6⟩)
  -- cases
  cases k0 : ((e.1 : Int) == 0)
  rotate_left
  · have hq : zdb e.1 = true := by
      simp only [beq_iff_eq, beq_eq_false_iff_ne] at k0
      simp only [zdb, decide_eq_true_eq]; omega
    have ke : e.1 = 0 := by simp only [beq_iff_eq, beq_eq_false_iff_ne] at k0; omega
    cases ko : ((o.1 : Int) != 0)
    · have ko' : o.1 = 0 := by simpa using ko
      have hz : decide (e.1 = 0 ∧ o.1 = 0) = true := by simp [ke, ko']
      cases kt : ((t.1 : Int) == 0)
      · have kt' : ¬ t.1 = 0 := by simpa using kt
        have hx : (zbh s).2 = o.2 := by rw [hL, hq]; simp [ke, ko', kt']
        rw [hz1, hx] at hK
        (
        refine zt (zb d0 (zb d1 (zb d2 (zb f0 (zb f1 (zb f2 (zb f3 (zb e1 (zb hie (zb k0 (zb ko (zb kt hz)))))))))))) ?_
        exact fin _ _ _ (hSf _) (hRf _) (by simpa using hlS) hK)
      · have kt' : t.1 = 0 := by simpa using kt
        have hx : (zbh s).2 = o.2 := by rw [hL, hq]; simp [ke, ko', kt']
        rw [hz1, hx] at hK
        (
        refine zt (zb d0 (zb d1 (zb d2 (zb f0 (zb f1 (zb f2 (zb f3 (zb e1 (zb hie (zb k0 (zb ko (zb kt hz)))))))))))) ?_
        exact fin _ _ _ (hSf _) (hRf _) (by simpa using hlS) hK)
    · have ko' : ¬ o.1 = 0 := by simpa using ko
      have hz : decide (e.1 = 0 ∧ o.1 = 0) = false := by simp [ke, ko']
      cases kt : ((t.1 : Int) == 0)
      · have kt' : ¬ t.1 = 0 := by simpa using kt
        have hx : (zbh s).2 = o.2 := by rw [hL, hq]; simp [ke, ko', kt']
        rw [hz1, hx] at hK
        (
        refine zt (zb d0 (zb d1 (zb d2 (zb f0 (zb f1 (zb f2 (zb f3 (zb e1 (zb hie (zb k0 (zb ko (zb kt hz)))))))))))) ?_
        exact fin _ _ _ (hSf _) (hRf _) (by simpa using hlS) hK)
      · have kt' : t.1 = 0 := by simpa using kt
        have hx : (zbh s).2 = (o.2).fail false 70 := by rw [hL, hq]; simp [ke, ko', kt']
        rw [hz1, hx] at hK
        (
        refine zt (zb d0 (zb d1 (zb d2 (zb f0 (zb f1 (zb f2 (zb f3 (zb e1 (zb hie (zb k0 (zb ko (zb kt hz)))))))))))) ?_
        refine zaq (hSf _) fun S5 hS5 hR5 => ?_
        have g0 : S5[σ.length]? = _ := hR5.at_ (f0 _) (by omega)
        have g1 : S5[σ.length + 1]? = _ := hR5.at_ (f1 _) (by omega)
        have g2 : S5[S1.length]? = _ := hR5.at_ (f2 _) (by omega)
        have l5 := zg g1
        have g3 : ∀ Z, (S5.set (σ.length + 1) Z)[σ.length + 1]? = some Z := fun Z => List.getElem?_set_self l5
        refine zt (zb g0 (zb g1 (zb g2 (zb g3 e1)))) ?_
        exact fin _ _ _ hS5 ((hRf _).trans hR5) l5 hK)
  cases k4 : ((e.1 : Int) == 4)
  rotate_left
  · have hq : zdb e.1 = true := by
      simp only [beq_iff_eq, beq_eq_false_iff_ne] at k0 k4
      simp only [zdb, decide_eq_true_eq]; omega
    have ke : ¬ e.1 = 0 := by simp only [beq_iff_eq, beq_eq_false_iff_ne] at k0; omega
    cases ko : ((o.1 : Int) != 0)
    · have ko' : o.1 = 0 := by simpa using ko
      have hz : decide (e.1 = 0 ∧ o.1 = 0) = false := by simp [ke, ko']
      cases kt : ((t.1 : Int) == 0)
      · have kt' : ¬ t.1 = 0 := by simpa using kt
        have hx : (zbh s).2 = o.2 := by rw [hL, hq]; simp [ke, ko', kt']
        rw [hz1, hx] at hK
        (
        refine zt (zb d0 (zb d1 (zb d2 (zb f0 (zb f1 (zb f2 (zb f3 (zb e1 (zb hie (zb k0 (zb k4 (zb ko (zb kt hz))))))))))))) ?_
        exact fin _ _ _ (hSf _) (hRf _) (by simpa using hlS) hK)
      · have kt' : t.1 = 0 := by simpa using kt
        have hx : (zbh s).2 = (o.2).fail false 70 := by rw [hL, hq]; simp [ke, ko', kt']
        rw [hz1, hx] at hK
        (
        refine zt (zb d0 (zb d1 (zb d2 (zb f0 (zb f1 (zb f2 (zb f3 (zb e1 (zb hie (zb k0 (zb k4 (zb ko (zb kt hz))))))))))))) ?_
        refine zaq (hSf _) fun S5 hS5 hR5 => ?_
        have g0 : S5[σ.length]? = _ := hR5.at_ (f0 _) (by omega)
        have g1 : S5[σ.length + 1]? = _ := hR5.at_ (f1 _) (by omega)
        have g2 : S5[S1.length]? = _ := hR5.at_ (f2 _) (by omega)
        have l5 := zg g1
        have g3 : ∀ Z, (S5.set (σ.length + 1) Z)[σ.length + 1]? = some Z := fun Z => List.getElem?_set_self l5
        refine zt (zb g0 (zb g1 (zb g2 (zb g3 e1)))) ?_
        exact fin _ _ _ hS5 ((hRf _).trans hR5) l5 hK)
    · have ko' : ¬ o.1 = 0 := by simpa using ko
      have hz : decide (e.1 = 0 ∧ o.1 = 0) = false := by simp [ke, ko']
      cases kt : ((t.1 : Int) == 0)
      · have kt' : ¬ t.1 = 0 := by simpa using kt
        have hx : (zbh s).2 = (o.2).fail false 70 := by rw [hL, hq]; simp [ke, ko', kt']
        rw [hz1, hx] at hK
        (
        refine zt (zb d0 (zb d1 (zb d2 (zb f0 (zb f1 (zb f2 (zb f3 (zb e1 (zb hie (zb k0 (zb k4 (zb ko (zb kt hz))))))))))))) ?_
        refine zaq (hSf _) fun S5 hS5 hR5 => ?_
        have g0 : S5[σ.length]? = _ := hR5.at_ (f0 _) (by omega)
        have g1 : S5[σ.length + 1]? = _ := hR5.at_ (f1 _) (by omega)
        have g2 : S5[S1.length]? = _ := hR5.at_ (f2 _) (by omega)
        have l5 := zg g1
        have g3 : ∀ Z, (S5.set (σ.length + 1) Z)[σ.length + 1]? = some Z := fun Z => List.getElem?_set_self l5
        refine zt (zb g0 (zb g1 (zb g2 (zb g3 (zb d0 (zb d1 (zb d2 (zb f0 (zb f1 (zb f2 (zb f3 (zb e1 (zb hie (zb k0 (zb k4 (zb ko (zb kt hz))))))))))))))))) ?_
        exact fin _ _ _ hS5 ((hRf _).trans hR5) l5 hK)
      · have kt' : t.1 = 0 := by simpa using kt
        have hx : (zbh s).2 = ((o.2).fail false 70).fail false 70 := by rw [hL, hq]; simp [ke, ko', kt']
        rw [hz1, hx] at hK
        (
        refine zt (zb d0 (zb d1 (zb d2 (zb f0 (zb f1 (zb f2 (zb f3 (zb e1 (zb hie (zb k0 (zb k4 (zb ko (zb kt hz))))))))))))) ?_
        refine zaq (hSf _) fun S5 hS5 hR5 => ?_
        have g0 : S5[σ.length]? = _ := hR5.at_ (f0 _) (by omega)
        have g1 : S5[σ.length + 1]? = _ := hR5.at_ (f1 _) (by omega)
        have g2 : S5[S1.length]? = _ := hR5.at_ (f2 _) (by omega)
        have l5 := zg g1
        have g3 : ∀ Z, (S5.set (σ.length + 1) Z)[σ.length + 1]? = some Z := fun Z => List.getElem?_set_self l5
        refine zt (zb g0 (zb g1 (zb g2 (zb g3 (zb d0 (zb d1 (zb d2 (zb f0 (zb f1 (zb f2 (zb f3 (zb e1 (zb hie (zb k0 (zb k4 (zb ko (zb kt hz))))))))))))))))) ?_
        refine zaq hS5 fun S6 hS6 hR6 => ?_
        have j0 : S6[σ.length]? = _ := hR6.at_ g0 (by omega)
        have j1 : S6[σ.length + 1]? = _ := hR6.at_ g1 (by omega)
        have j2 : S6[S1.length]? = _ := hR6.at_ g2 (by omega)
        have l6 := zg j1
        have j3 : ∀ Z, (S6.set (σ.length + 1) Z)[σ.length + 1]? = some Z := fun Z => List.getElem?_set_self l6
        refine zt (zb j0 (zb j1 (zb j2 (zb j3 e1)))) ?_
        exact fin _ _ _ hS6 (((hRf _).trans hR5).trans hR6) l6 hK)
  cases k5 : ((e.1 : Int) == 5)
  rotate_left
  · have hq : zdb e.1 = true := by
      simp only [beq_iff_eq, beq_eq_false_iff_ne] at k0 k4 k5
      simp only [zdb, decide_eq_true_eq]; omega
    have ke : ¬ e.1 = 0 := by simp only [beq_iff_eq, beq_eq_false_iff_ne] at k0; omega
    cases ko : ((o.1 : Int) != 0)
    · have ko' : o.1 = 0 := by simpa using ko
      have hz : decide (e.1 = 0 ∧ o.1 = 0) = false := by simp [ke, ko']
      cases kt : ((t.1 : Int) == 0)
      · have kt' : ¬ t.1 = 0 := by simpa using kt
        have hx : (zbh s).2 = o.2 := by rw [hL, hq]; simp [ke, ko', kt']
        rw [hz1, hx] at hK
        (
        refine zt (zb d0 (zb d1 (zb d2 (zb f0 (zb f1 (zb f2 (zb f3 (zb e1 (zb hie (zb k0 (zb k4 (zb k5 (zb ko (zb kt hz)))))))))))))) ?_
        exact fin _ _ _ (hSf _) (hRf _) (by simpa using hlS) hK)
      · have kt' : t.1 = 0 := by simpa using kt
        have hx : (zbh s).2 = (o.2).fail false 70 := by rw [hL, hq]; simp [ke, ko', kt']
        rw [hz1, hx] at hK
        (
        refine zt (zb d0 (zb d1 (zb d2 (zb f0 (zb f1 (zb f2 (zb f3 (zb e1 (zb hie (zb k0 (zb k4 (zb k5 (zb ko (zb kt hz)))))))))))))) ?_
        refine zaq (hSf _) fun S5 hS5 hR5 => ?_
        have g0 : S5[σ.length]? = _ := hR5.at_ (f0 _) (by omega)
        have g1 : S5[σ.length + 1]? = _ := hR5.at_ (f1 _) (by omega)
        have g2 : S5[S1.length]? = _ := hR5.at_ (f2 _) (by omega)
        have l5 := zg g1
        have g3 : ∀ Z, (S5.set (σ.length + 1) Z)[σ.length + 1]? = some Z := fun Z => List.getElem?_set_self l5
        refine zt (zb g0 (zb g1 (zb g2 (zb g3 e1)))) ?_
        exact fin _ _ _ hS5 ((hRf _).trans hR5) l5 hK)
    · have ko' : ¬ o.1 = 0 := by simpa using ko
      have hz : decide (e.1 = 0 ∧ o.1 = 0) = false := by simp [ke, ko']
      cases kt : ((t.1 : Int) == 0)
      · have kt' : ¬ t.1 = 0 := by simpa using kt
        have hx : (zbh s).2 = (o.2).fail false 70 := by rw [hL, hq]; simp [ke, ko', kt']
        rw [hz1, hx] at hK
        (
        refine zt (zb d0 (zb d1 (zb d2 (zb f0 (zb f1 (zb f2 (zb f3 (zb e1 (zb hie (zb k0 (zb k4 (zb k5 (zb ko (zb kt hz)))))))))))))) ?_
        refine zaq (hSf _) fun S5 hS5 hR5 => ?_
        have g0 : S5[σ.length]? = _ := hR5.at_ (f0 _) (by omega)
        have g1 : S5[σ.length + 1]? = _ := hR5.at_ (f1 _) (by omega)
        have g2 : S5[S1.length]? = _ := hR5.at_ (f2 _) (by omega)
        have l5 := zg g1
        have g3 : ∀ Z, (S5.set (σ.length + 1) Z)[σ.length + 1]? = some Z := fun Z => List.getElem?_set_self l5
        refine zt (zb g0 (zb g1 (zb g2 (zb g3 (zb d0 (zb d1 (zb d2 (zb f0 (zb f1 (zb f2 (zb f3 (zb e1 (zb hie (zb k0 (zb k4 (zb k5 (zb ko (zb kt hz)))))))))))))))))) ?_
        exact fin _ _ _ hS5 ((hRf _).trans hR5) l5 hK)
      · have kt' : t.1 = 0 := by simpa using kt
        have hx : (zbh s).2 = ((o.2).fail false 70).fail false 70 := by rw [hL, hq]; simp [ke, ko', kt']
        rw [hz1, hx] at hK
        (
        refine zt (zb d0 (zb d1 (zb d2 (zb f0 (zb f1 (zb f2 (zb f3 (zb e1 (zb hie (zb k0 (zb k4 (zb k5 (zb ko (zb kt hz)))))))))))))) ?_
        refine zaq (hSf _) fun S5 hS5 hR5 => ?_
        have g0 : S5[σ.length]? = _ := hR5.at_ (f0 _) (by omega)
        have g1 : S5[σ.length + 1]? = _ := hR5.at_ (f1 _) (by omega)
        have g2 : S5[S1.length]? = _ := hR5.at_ (f2 _) (by omega)
        have l5 := zg g1
        have g3 : ∀ Z, (S5.set (σ.length + 1) Z)[σ.length + 1]? = some Z := fun Z => List.getElem?_set_self l5
        refine zt (zb g0 (zb g1 (zb g2 (zb g3 (zb d0 (zb d1 (zb d2 (zb f0 (zb f1 (zb f2 (zb f3 (zb e1 (zb hie (zb k0 (zb k4 (zb k5 (zb ko (zb kt hz)))))))))))))))))) ?_
        refine zaq hS5 fun S6 hS6 hR6 => ?_
        have j0 : S6[σ.length]? = _ := hR6.at_ g0 (by omega)
        have j1 : S6[σ.length + 1]? = _ := hR6.at_ g1 (by omega)
        have j2 : S6[S1.length]? = _ := hR6.at_ g2 (by omega)
        have l6 := zg j1
        have j3 : ∀ Z, (S6.set (σ.length + 1) Z)[σ.length + 1]? = some Z := fun Z => List.getElem?_set_self l6
        refine zt (zb j0 (zb j1 (zb j2 (zb j3 e1)))) ?_
        exact fin _ _ _ hS6 (((hRf _).trans hR5).trans hR6) l6 hK)
  cases k6 : ((e.1 : Int) == 6)
  rotate_left
  · have hq : zdb e.1 = true := by
      simp only [beq_iff_eq, beq_eq_false_iff_ne] at k0 k4 k5 k6
      simp only [zdb, decide_eq_true_eq]; omega
    have ke : ¬ e.1 = 0 := by simp only [beq_iff_eq, beq_eq_false_iff_ne] at k0; omega
    cases ko : ((o.1 : Int) != 0)
    · have ko' : o.1 = 0 := by simpa using ko
      have hz : decide (e.1 = 0 ∧ o.1 = 0) = false := by simp [ke, ko']
      cases kt : ((t.1 : Int) == 0)
      · have kt' : ¬ t.1 = 0 := by simpa using kt
        have hx : (zbh s).2 = o.2 := by rw [hL, hq]; simp [ke, ko', kt']
        rw [hz1, hx] at hK
        (
        refine zt (zb d0 (zb d1 (zb d2 (zb f0 (zb f1 (zb f2 (zb f3 (zb e1 (zb hie (zb k0 (zb k4 (zb k5 (zb k6 (zb ko (zb kt hz))))))))))))))) ?_
        exact fin _ _ _ (hSf _) (hRf _) (by simpa using hlS) hK)
      · have kt' : t.1 = 0 := by simpa using kt
        have hx : (zbh s).2 = (o.2).fail false 70 := by rw [hL, hq]; simp [ke, ko', kt']
        rw [hz1, hx] at hK
        (
        refine zt (zb d0 (zb d1 (zb d2 (zb f0 (zb f1 (zb f2 (zb f3 (zb e1 (zb hie (zb k0 (zb k4 (zb k5 (zb k6 (zb ko (zb kt hz))))))))))))))) ?_
        refine zaq (hSf _) fun S5 hS5 hR5 => ?_
        have g0 : S5[σ.length]? = _ := hR5.at_ (f0 _) (by omega)
        have g1 : S5[σ.length + 1]? = _ := hR5.at_ (f1 _) (by omega)
        have g2 : S5[S1.length]? = _ := hR5.at_ (f2 _) (by omega)
        have l5 := zg g1
        have g3 : ∀ Z, (S5.set (σ.length + 1) Z)[σ.length + 1]? = some Z := fun Z => List.getElem?_set_self l5
        refine zt (zb g0 (zb g1 (zb g2 (zb g3 e1)))) ?_
        exact fin _ _ _ hS5 ((hRf _).trans hR5) l5 hK)
    · have ko' : ¬ o.1 = 0 := by simpa using ko
      have hz : decide (e.1 = 0 ∧ o.1 = 0) = false := by simp [ke, ko']
      cases kt : ((t.1 : Int) == 0)
      · have kt' : ¬ t.1 = 0 := by simpa using kt
        have hx : (zbh s).2 = (o.2).fail false 70 := by rw [hL, hq]; simp [ke, ko', kt']
        rw [hz1, hx] at hK
        (
        refine zt (zb d0 (zb d1 (zb d2 (zb f0 (zb f1 (zb f2 (zb f3 (zb e1 (zb hie (zb k0 (zb k4 (zb k5 (zb k6 (zb ko (zb kt hz))))))))))))))) ?_
        refine zaq (hSf _) fun S5 hS5 hR5 => ?_
        have g0 : S5[σ.length]? = _ := hR5.at_ (f0 _) (by omega)
        have g1 : S5[σ.length + 1]? = _ := hR5.at_ (f1 _) (by omega)
        have g2 : S5[S1.length]? = _ := hR5.at_ (f2 _) (by omega)
        have l5 := zg g1
        have g3 : ∀ Z, (S5.set (σ.length + 1) Z)[σ.length + 1]? = some Z := fun Z => List.getElem?_set_self l5
        refine zt (zb g0 (zb g1 (zb g2 (zb g3 (zb d0 (zb d1 (zb d2 (zb f0 (zb f1 (zb f2 (zb f3 (zb e1 (zb hie (zb k0 (zb k4 (zb k5 (zb k6 (zb ko (zb kt hz))))))))))))))))))) ?_
        exact fin _ _ _ hS5 ((hRf _).trans hR5) l5 hK)
      · have kt' : t.1 = 0 := by simpa using kt
        have hx : (zbh s).2 = ((o.2).fail false 70).fail false 70 := by rw [hL, hq]; simp [ke, ko', kt']
        rw [hz1, hx] at hK
        (
        refine zt (zb d0 (zb d1 (zb d2 (zb f0 (zb f1 (zb f2 (zb f3 (zb e1 (zb hie (zb k0 (zb k4 (zb k5 (zb k6 (zb ko (zb kt hz))))))))))))))) ?_
        refine zaq (hSf _) fun S5 hS5 hR5 => ?_
        have g0 : S5[σ.length]? = _ := hR5.at_ (f0 _) (by omega)
        have g1 : S5[σ.length + 1]? = _ := hR5.at_ (f1 _) (by omega)
        have g2 : S5[S1.length]? = _ := hR5.at_ (f2 _) (by omega)
        have l5 := zg g1
        have g3 : ∀ Z, (S5.set (σ.length + 1) Z)[σ.length + 1]? = some Z := fun Z => List.getElem?_set_self l5
        refine zt (zb g0 (zb g1 (zb g2 (zb g3 (zb d0 (zb d1 (zb d2 (zb f0 (zb f1 (zb f2 (zb f3 (zb e1 (zb hie (zb k0 (zb k4 (zb k5 (zb k6 (zb ko (zb kt hz))))))))))))))))))) ?_
        refine zaq hS5 fun S6 hS6 hR6 => ?_
        have j0 : S6[σ.length]? = _ := hR6.at_ g0 (by omega)
        have j1 : S6[σ.length + 1]? = _ := hR6.at_ g1 (by omega)
        have j2 : S6[S1.length]? = _ := hR6.at_ g2 (by omega)
        have l6 := zg j1
        have j3 : ∀ Z, (S6.set (σ.length + 1) Z)[σ.length + 1]? = some Z := fun Z => List.getElem?_set_self l6
        refine zt (zb j0 (zb j1 (zb j2 (zb j3 e1)))) ?_
        exact fin _ _ _ hS6 (((hRf _).trans hR5).trans hR6) l6 hK)
  cases k71 : ((e.1 : Int) == 71)
  rotate_left
  · have hq : zdb e.1 = true := by
      simp only [beq_iff_eq, beq_eq_false_iff_ne] at k0 k4 k5 k6 k71
      simp only [zdb, decide_eq_true_eq]; omega
    have ke : ¬ e.1 = 0 := by simp only [beq_iff_eq, beq_eq_false_iff_ne] at k0; omega
    cases ko : ((o.1 : Int) != 0)
    · have ko' : o.1 = 0 := by simpa using ko
      have hz : decide (e.1 = 0 ∧ o.1 = 0) = false := by simp [ke, ko']
      cases kt : ((t.1 : Int) == 0)
      · have kt' : ¬ t.1 = 0 := by simpa using kt
        have hx : (zbh s).2 = o.2 := by rw [hL, hq]; simp [ke, ko', kt']
        rw [hz1, hx] at hK
        (
        refine zt (zb d0 (zb d1 (zb d2 (zb f0 (zb f1 (zb f2 (zb f3 (zb e1 (zb hie (zb k0 (zb k4 (zb k5 (zb k6 (zb k71 (zb ko (zb kt hz)))))))))))))))) ?_
        exact fin _ _ _ (hSf _) (hRf _) (by simpa using hlS) hK)
      · have kt' : t.1 = 0 := by simpa using kt
        have hx : (zbh s).2 = (o.2).fail false 70 := by rw [hL, hq]; simp [ke, ko', kt']
        rw [hz1, hx] at hK
        (
        refine zt (zb d0 (zb d1 (zb d2 (zb f0 (zb f1 (zb f2 (zb f3 (zb e1 (zb hie (zb k0 (zb k4 (zb k5 (zb k6 (zb k71 (zb ko (zb kt hz)))))))))))))))) ?_
        refine zaq (hSf _) fun S5 hS5 hR5 => ?_
        have g0 : S5[σ.length]? = _ := hR5.at_ (f0 _) (by omega)
        have g1 : S5[σ.length + 1]? = _ := hR5.at_ (f1 _) (by omega)
        have g2 : S5[S1.length]? = _ := hR5.at_ (f2 _) (by omega)
        have l5 := zg g1
        have g3 : ∀ Z, (S5.set (σ.length + 1) Z)[σ.length + 1]? = some Z := fun Z => List.getElem?_set_self l5
        refine zt (zb g0 (zb g1 (zb g2 (zb g3 e1)))) ?_
        exact fin _ _ _ hS5 ((hRf _).trans hR5) l5 hK)
    · have ko' : ¬ o.1 = 0 := by simpa using ko
      have hz : decide (e.1 = 0 ∧ o.1 = 0) = false := by simp [ke, ko']
      cases kt : ((t.1 : Int) == 0)
      · have kt' : ¬ t.1 = 0 := by simpa using kt
        have hx : (zbh s).2 = (o.2).fail false 70 := by rw [hL, hq]; simp [ke, ko', kt']
        rw [hz1, hx] at hK
        (
        refine zt (zb d0 (zb d1 (zb d2 (zb f0 (zb f1 (zb f2 (zb f3 (zb e1 (zb hie (zb k0 (zb k4 (zb k5 (zb k6 (zb k71 (zb ko (zb kt hz)))))))))))))))) ?_
        refine zaq (hSf _) fun S5 hS5 hR5 => ?_
        have g0 : S5[σ.length]? = _ := hR5.at_ (f0 _) (by omega)
        have g1 : S5[σ.length + 1]? = _ := hR5.at_ (f1 _) (by omega)
        have g2 : S5[S1.length]? = _ := hR5.at_ (f2 _) (by omega)
        have l5 := zg g1
        have g3 : ∀ Z, (S5.set (σ.length + 1) Z)[σ.length + 1]? = some Z := fun Z => List.getElem?_set_self l5
        refine zt (zb g0 (zb g1 (zb g2 (zb g3 (zb d0 (zb d1 (zb d2 (zb f0 (zb f1 (zb f2 (zb f3 (zb e1 (zb hie (zb k0 (zb k4 (zb k5 (zb k6 (zb k71 (zb ko (zb kt hz)))))))))))))))))))) ?_
        exact fin _ _ _ hS5 ((hRf _).trans hR5) l5 hK)
      · have kt' : t.1 = 0 := by simpa using kt
        have hx : (zbh s).2 = ((o.2).fail false 70).fail false 70 := by rw [hL, hq]; simp [ke, ko', kt']
        rw [hz1, hx] at hK
        (
        refine zt (zb d0 (zb d1 (zb d2 (zb f0 (zb f1 (zb f2 (zb f3 (zb e1 (zb hie (zb k0 (zb k4 (zb k5 (zb k6 (zb k71 (zb ko (zb kt hz)))))))))))))))) ?_
        refine zaq (hSf _) fun S5 hS5 hR5 => ?_
        have g0 : S5[σ.length]? = _ := hR5.at_ (f0 _) (by omega)
        have g1 : S5[σ.length + 1]? = _ := hR5.at_ (f1 _) (by omega)
        have g2 : S5[S1.length]? = _ := hR5.at_ (f2 _) (by omega)
        have l5 := zg g1
        have g3 : ∀ Z, (S5.set (σ.length + 1) Z)[σ.length + 1]? = some Z := fun Z => List.getElem?_set_self l5
        refine zt (zb g0 (zb g1 (zb g2 (zb g3 (zb d0 (zb d1 (zb d2 (zb f0 (zb f1 (zb f2 (zb f3 (zb e1 (zb hie (zb k0 (zb k4 (zb k5 (zb k6 (zb k71 (zb ko (zb kt hz)))))))))))))))))))) ?_
        refine zaq hS5 fun S6 hS6 hR6 => ?_
        have j0 : S6[σ.length]? = _ := hR6.at_ g0 (by omega)
        have j1 : S6[σ.length + 1]? = _ := hR6.at_ g1 (by omega)
        have j2 : S6[S1.length]? = _ := hR6.at_ g2 (by omega)
        have l6 := zg j1
        have j3 : ∀ Z, (S6.set (σ.length + 1) Z)[σ.length + 1]? = some Z := fun Z => List.getElem?_set_self l6
        refine zt (zb j0 (zb j1 (zb j2 (zb j3 e1)))) ?_
        exact fin _ _ _ hS6 (((hRf _).trans hR5).trans hR6) l6 hK)
  cases k72 : ((e.1 : Int) == 72)
  rotate_left
  · have hq : zdb e.1 = true := by
      simp only [beq_iff_eq, beq_eq_false_iff_ne] at k0 k4 k5 k6 k71 k72
      simp only [zdb, decide_eq_true_eq]; omega
    have ke : ¬ e.1 = 0 := by simp only [beq_iff_eq, beq_eq_false_iff_ne] at k0; omega
    cases ko : ((o.1 : Int) != 0)
    · have ko' : o.1 = 0 := by simpa using ko
      have hz : decide (e.1 = 0 ∧ o.1 = 0) = false := by simp [ke, ko']
      cases kt : ((t.1 : Int) == 0)
      · have kt' : ¬ t.1 = 0 := by simpa using kt
        have hx : (zbh s).2 = o.2 := by rw [hL, hq]; simp [ke, ko', kt']
        rw [hz1, hx] at hK
        (
        refine zt (zb d0 (zb d1 (zb d2 (zb f0 (zb f1 (zb f2 (zb f3 (zb e1 (zb hie (zb k0 (zb k4 (zb k5 (zb k6 (zb k71 (zb k72 (zb ko (zb kt hz))))))))))))))))) ?_
        exact fin _ _ _ (hSf _) (hRf _) (by simpa using hlS) hK)
      · have kt' : t.1 = 0 := by simpa using kt
        have hx : (zbh s).2 = (o.2).fail false 70 := by rw [hL, hq]; simp [ke, ko', kt']
        rw [hz1, hx] at hK
        (
        refine zt (zb d0 (zb d1 (zb d2 (zb f0 (zb f1 (zb f2 (zb f3 (zb e1 (zb hie (zb k0 (zb k4 (zb k5 (zb k6 (zb k71 (zb k72 (zb ko (zb kt hz))))))))))))))))) ?_
        refine zaq (hSf _) fun S5 hS5 hR5 => ?_
        have g0 : S5[σ.length]? = _ := hR5.at_ (f0 _) (by omega)
        have g1 : S5[σ.length + 1]? = _ := hR5.at_ (f1 _) (by omega)
        have g2 : S5[S1.length]? = _ := hR5.at_ (f2 _) (by omega)
        have l5 := zg g1
        have g3 : ∀ Z, (S5.set (σ.length + 1) Z)[σ.length + 1]? = some Z := fun Z => List.getElem?_set_self l5
        refine zt (zb g0 (zb g1 (zb g2 (zb g3 e1)))) ?_
        exact fin _ _ _ hS5 ((hRf _).trans hR5) l5 hK)
    · have ko' : ¬ o.1 = 0 := by simpa using ko
      have hz : decide (e.1 = 0 ∧ o.1 = 0) = false := by simp [ke, ko']
      cases kt : ((t.1 : Int) == 0)
      · have kt' : ¬ t.1 = 0 := by simpa using kt
        have hx : (zbh s).2 = (o.2).fail false 70 := by rw [hL, hq]; simp [ke, ko', kt']
        rw [hz1, hx] at hK
        (
        refine zt (zb d0 (zb d1 (zb d2 (zb f0 (zb f1 (zb f2 (zb f3 (zb e1 (zb hie (zb k0 (zb k4 (zb k5 (zb k6 (zb k71 (zb k72 (zb ko (zb kt hz))))))))))))))))) ?_
        refine zaq (hSf _) fun S5 hS5 hR5 => ?_
        have g0 : S5[σ.length]? = _ := hR5.at_ (f0 _) (by omega)
        have g1 : S5[σ.length + 1]? = _ := hR5.at_ (f1 _) (by omega)
        have g2 : S5[S1.length]? = _ := hR5.at_ (f2 _) (by omega)
        have l5 := zg g1
        have g3 : ∀ Z, (S5.set (σ.length + 1) Z)[σ.length + 1]? = some Z := fun Z => List.getElem?_set_self l5
        refine zt (zb g0 (zb g1 (zb g2 (zb g3 (zb d0 (zb d1 (zb d2 (zb f0 (zb f1 (zb f2 (zb f3 (zb e1 (zb hie (zb k0 (zb k4 (zb k5 (zb k6 (zb k71 (zb k72 (zb ko (zb kt hz))))))))))))))))))))) ?_
        exact fin _ _ _ hS5 ((hRf _).trans hR5) l5 hK)
      · have kt' : t.1 = 0 := by simpa using kt
        have hx : (zbh s).2 = ((o.2).fail false 70).fail false 70 := by rw [hL, hq]; simp [ke, ko', kt']
        rw [hz1, hx] at hK
        (
        refine zt (zb d0 (zb d1 (zb d2 (zb f0 (zb f1 (zb f2 (zb f3 (zb e1 (zb hie (zb k0 (zb k4 (zb k5 (zb k6 (zb k71 (zb k72 (zb ko (zb kt hz))))))))))))))))) ?_
        refine zaq (hSf _) fun S5 hS5 hR5 => ?_
        have g0 : S5[σ.length]? = _ := hR5.at_ (f0 _) (by omega)
        have g1 : S5[σ.length + 1]? = _ := hR5.at_ (f1 _) (by omega)
        have g2 : S5[S1.length]? = _ := hR5.at_ (f2 _) (by omega)
        have l5 := zg g1
        have g3 : ∀ Z, (S5.set (σ.length + 1) Z)[σ.length + 1]? = some Z := fun Z => List.getElem?_set_self l5
        refine zt (zb g0 (zb g1 (zb g2 (zb g3 (zb d0 (zb d1 (zb d2 (zb f0 (zb f1 (zb f2 (zb f3 (zb e1 (zb hie (zb k0 (zb k4 (zb k5 (zb k6 (zb k71 (zb k72 (zb ko (zb kt hz))))))))))))))))))))) ?_
        refine zaq hS5 fun S6 hS6 hR6 => ?_
        have j0 : S6[σ.length]? = _ := hR6.at_ g0 (by omega)
        have j1 : S6[σ.length + 1]? = _ := hR6.at_ g1 (by omega)
        have j2 : S6[S1.length]? = _ := hR6.at_ g2 (by omega)
        have l6 := zg j1
        have j3 : ∀ Z, (S6.set (σ.length + 1) Z)[σ.length + 1]? = some Z := fun Z => List.getElem?_set_self l6
        refine zt (zb j0 (zb j1 (zb j2 (zb j3 e1)))) ?_
        exact fin _ _ _ hS6 (((hRf _).trans hR5).trans hR6) l6 hK)
  cases k60 : ((e.1 : Int) == 60)
  rotate_left
  · have hq : zdb e.1 = true := by
      simp only [beq_iff_eq, beq_eq_false_iff_ne] at k0 k4 k5 k6 k71 k72 k60
      simp only [zdb, decide_eq_true_eq]; omega
    have ke : ¬ e.1 = 0 := by simp only [beq_iff_eq, beq_eq_false_iff_ne] at k0; omega
    cases ko : ((o.1 : Int) != 0)
    · have ko' : o.1 = 0 := by simpa using ko
      have hz : decide (e.1 = 0 ∧ o.1 = 0) = false := by simp [ke, ko']
      cases kt : ((t.1 : Int) == 0)
      · have kt' : ¬ t.1 = 0 := by simpa using kt
        have hx : (zbh s).2 = o.2 := by rw [hL, hq]; simp [ke, ko', kt']
        rw [hz1, hx] at hK
        (
        refine zt (zb d0 (zb d1 (zb d2 (zb f0 (zb f1 (zb f2 (zb f3 (zb e1 (zb hie (zb k0 (zb k4 (zb k5 (zb k6 (zb k71 (zb k72 (zb k60 (zb ko (zb kt hz)))))))))))))))))) ?_
        exact fin _ _ _ (hSf _) (hRf _) (by simpa using hlS) hK)
      · have kt' : t.1 = 0 := by simpa using kt
        have hx : (zbh s).2 = (o.2).fail false 70 := by rw [hL, hq]; simp [ke, ko', kt']
        rw [hz1, hx] at hK
        (
        refine zt (zb d0 (zb d1 (zb d2 (zb f0 (zb f1 (zb f2 (zb f3 (zb e1 (zb hie (zb k0 (zb k4 (zb k5 (zb k6 (zb k71 (zb k72 (zb k60 (zb ko (zb kt hz)))))))))))))))))) ?_
        refine zaq (hSf _) fun S5 hS5 hR5 => ?_
        have g0 : S5[σ.length]? = _ := hR5.at_ (f0 _) (by omega)
        have g1 : S5[σ.length + 1]? = _ := hR5.at_ (f1 _) (by omega)
        have g2 : S5[S1.length]? = _ := hR5.at_ (f2 _) (by omega)
        have l5 := zg g1
        have g3 : ∀ Z, (S5.set (σ.length + 1) Z)[σ.length + 1]? = some Z := fun Z => List.getElem?_set_self l5
        refine zt (zb g0 (zb g1 (zb g2 (zb g3 e1)))) ?_
        exact fin _ _ _ hS5 ((hRf _).trans hR5) l5 hK)
    · have ko' : ¬ o.1 = 0 := by simpa using ko
      have hz : decide (e.1 = 0 ∧ o.1 = 0) = false := by simp [ke, ko']
      cases kt : ((t.1 : Int) == 0)
      · have kt' : ¬ t.1 = 0 := by simpa using kt
        have hx : (zbh s).2 = (o.2).fail false 70 := by rw [hL, hq]; simp [ke, ko', kt']
        rw [hz1, hx] at hK
        (
        refine zt (zb d0 (zb d1 (zb d2 (zb f0 (zb f1 (zb f2 (zb f3 (zb e1 (zb hie (zb k0 (zb k4 (zb k5 (zb k6 (zb k71 (zb k72 (zb k60 (zb ko (zb kt hz)))))))))))))))))) ?_
        refine zaq (hSf _) fun S5 hS5 hR5 => ?_
        have g0 : S5[σ.length]? = _ := hR5.at_ (f0 _) (by omega)
        have g1 : S5[σ.length + 1]? = _ := hR5.at_ (f1 _) (by omega)
        have g2 : S5[S1.length]? = _ := hR5.at_ (f2 _) (by omega)
        have l5 := zg g1
        have g3 : ∀ Z, (S5.set (σ.length + 1) Z)[σ.length + 1]? = some Z := fun Z => List.getElem?_set_self l5
        refine zt (zb g0 (zb g1 (zb g2 (zb g3 (zb d0 (zb d1 (zb d2 (zb f0 (zb f1 (zb f2 (zb f3 (zb e1 (zb hie (zb k0 (zb k4 (zb k5 (zb k6 (zb k71 (zb k72 (zb k60 (zb ko (zb kt hz)))))))))))))))))))))) ?_
        exact fin _ _ _ hS5 ((hRf _).trans hR5) l5 hK)
      · have kt' : t.1 = 0 := by simpa using kt
        have hx : (zbh s).2 = ((o.2).fail false 70).fail false 70 := by rw [hL, hq]; simp [ke, ko', kt']
        rw [hz1, hx] at hK
        (
        refine zt (zb d0 (zb d1 (zb d2 (zb f0 (zb f1 (zb f2 (zb f3 (zb e1 (zb hie (zb k0 (zb k4 (zb k5 (zb k6 (zb k71 (zb k72 (zb k60 (zb ko (zb kt hz)))))))))))))))))) ?_
        refine zaq (hSf _) fun S5 hS5 hR5 => ?_
        have g0 : S5[σ.length]? = _ := hR5.at_ (f0 _) (by omega)
        have g1 : S5[σ.length + 1]? = _ := hR5.at_ (f1 _) (by omega)
        have g2 : S5[S1.length]? = _ := hR5.at_ (f2 _) (by omega)
        have l5 := zg g1
        have g3 : ∀ Z, (S5.set (σ.length + 1) Z)[σ.length + 1]? = some Z := fun Z => List.getElem?_set_self l5
        refine zt (zb g0 (zb g1 (zb g2 (zb g3 (zb d0 (zb d1 (zb d2 (zb f0 (zb f1 (zb f2 (zb f3 (zb e1 (zb hie (zb k0 (zb k4 (zb k5 (zb k6 (zb k71 (zb k72 (zb k60 (zb ko (zb kt hz)))))))))))))))))))))) ?_
        refine zaq hS5 fun S6 hS6 hR6 => ?_
        have j0 : S6[σ.length]? = _ := hR6.at_ g0 (by omega)
        have j1 : S6[σ.length + 1]? = _ := hR6.at_ g1 (by omega)
        have j2 : S6[S1.length]? = _ := hR6.at_ g2 (by omega)
        have l6 := zg j1
        have j3 : ∀ Z, (S6.set (σ.length + 1) Z)[σ.length + 1]? = some Z := fun Z => List.getElem?_set_self l6
        refine zt (zb j0 (zb j1 (zb j2 (zb j3 e1)))) ?_
        exact fin _ _ _ hS6 (((hRf _).trans hR5).trans hR6) l6 hK)
  cases k61 : ((e.1 : Int) == 61)
  rotate_left
  · have hq : zdb e.1 = true := by
      simp only [beq_iff_eq, beq_eq_false_iff_ne] at k0 k4 k5 k6 k71 k72 k60 k61
      simp only [zdb, decide_eq_true_eq]; omega
    have ke : ¬ e.1 = 0 := by simp only [beq_iff_eq, beq_eq_false_iff_ne] at k0; omega
    cases ko : ((o.1 : Int) != 0)
    · have ko' : o.1 = 0 := by simpa using ko
      have hz : decide (e.1 = 0 ∧ o.1 = 0) = false := by simp [ke, ko']
      cases kt : ((t.1 : Int) == 0)
      · have kt' : ¬ t.1 = 0 := by simpa using kt
        have hx : (zbh s).2 = o.2 := by rw [hL, hq]; simp [ke, ko', kt']
        rw [hz1, hx] at hK
        (
        refine zt (zb d0 (zb d1 (zb d2 (zb f0 (zb f1 (zb f2 (zb f3 (zb e1 (zb hie (zb k0 (zb k4 (zb k5 (zb k6 (zb k71 (zb k72 (zb k60 (zb k61 (zb ko (zb kt hz))))))))))))))))))) ?_
        exact fin _ _ _ (hSf _) (hRf _) (by simpa using hlS) hK)
      · have kt' : t.1 = 0 := by simpa using kt
        have hx : (zbh s).2 = (o.2).fail false 70 := by rw [hL, hq]; simp [ke, ko', kt']
        rw [hz1, hx] at hK
        (
        refine zt (zb d0 (zb d1 (zb d2 (zb f0 (zb f1 (zb f2 (zb f3 (zb e1 (zb hie (zb k0 (zb k4 (zb k5 (zb k6 (zb k71 (zb k72 (zb k60 (zb k61 (zb ko (zb kt hz))))))))))))))))))) ?_
        refine zaq (hSf _) fun S5 hS5 hR5 => ?_
        have g0 : S5[σ.length]? = _ := hR5.at_ (f0 _) (by omega)
        have g1 : S5[σ.length + 1]? = _ := hR5.at_ (f1 _) (by omega)
        have g2 : S5[S1.length]? = _ := hR5.at_ (f2 _) (by omega)
        have l5 := zg g1
        have g3 : ∀ Z, (S5.set (σ.length + 1) Z)[σ.length + 1]? = some Z := fun Z => List.getElem?_set_self l5
        refine zt (zb g0 (zb g1 (zb g2 (zb g3 e1)))) ?_
        exact fin _ _ _ hS5 ((hRf _).trans hR5) l5 hK)
    · have ko' : ¬ o.1 = 0 := by simpa using ko
      have hz : decide (e.1 = 0 ∧ o.1 = 0) = false := by simp [ke, ko']
      cases kt : ((t.1 : Int) == 0)
      · have kt' : ¬ t.1 = 0 := by simpa using kt
        have hx : (zbh s).2 = (o.2).fail false 70 := by rw [hL, hq]; simp [ke, ko', kt']
        rw [hz1, hx] at hK
        (
        refine zt (zb d0 (zb d1 (zb d2 (zb f0 (zb f1 (zb f2 (zb f3 (zb e1 (zb hie (zb k0 (zb k4 (zb k5 (zb k6 (zb k71 (zb k72 (zb k60 (zb k61 (zb ko (zb kt hz))))))))))))))))))) ?_
        refine zaq (hSf _) fun S5 hS5 hR5 => ?_
        have g0 : S5[σ.length]? = _ := hR5.at_ (f0 _) (by omega)
        have g1 : S5[σ.length + 1]? = _ := hR5.at_ (f1 _) (by omega)
        have g2 : S5[S1.length]? = _ := hR5.at_ (f2 _) (by omega)
        have l5 := zg g1
        have g3 : ∀ Z, (S5.set (σ.length + 1) Z)[σ.length + 1]? = some Z := fun Z => List.getElem?_set_self l5
        refine zt (zb g0 (zb g1 (zb g2 (zb g3 (zb d0 (zb d1 (zb d2 (zb f0 (zb f1 (zb f2 (zb f3 (zb e1 (zb hie (zb k0 (zb k4 (zb k5 (zb k6 (zb k71 (zb k72 (zb k60 (zb k61 (zb ko (zb kt hz))))))))))))))))))))))) ?_
        exact fin _ _ _ hS5 ((hRf _).trans hR5) l5 hK)
      · have kt' : t.1 = 0 := by simpa using kt
        have hx : (zbh s).2 = ((o.2).fail false 70).fail false 70 := by rw [hL, hq]; simp [ke, ko', kt']
        rw [hz1, hx] at hK
        (
        refine zt (zb d0 (zb d1 (zb d2 (zb f0 (zb f1 (zb f2 (zb f3 (zb e1 (zb hie (zb k0 (zb k4 (zb k5 (zb k6 (zb k71 (zb k72 (zb k60 (zb k61 (zb ko (zb kt hz))))))))))))))))))) ?_
        refine zaq (hSf _) fun S5 hS5 hR5 => ?_
        have g0 : S5[σ.length]? = _ := hR5.at_ (f0 _) (by omega)
        have g1 : S5[σ.length + 1]? = _ := hR5.at_ (f1 _) (by omega)
        have g2 : S5[S1.length]? = _ := hR5.at_ (f2 _) (by omega)
        have l5 := zg g1
        have g3 : ∀ Z, (S5.set (σ.length + 1) Z)[σ.length + 1]? = some Z := fun Z => List.getElem?_set_self l5
        refine zt (zb g0 (zb g1 (zb g2 (zb g3 (zb d0 (zb d1 (zb d2 (zb f0 (zb f1 (zb f2 (zb f3 (zb e1 (zb hie (zb k0 (zb k4 (zb k5 (zb k6 (zb k71 (zb k72 (zb k60 (zb k61 (zb ko (zb kt hz))))))))))))))))))))))) ?_
        refine zaq hS5 fun S6 hS6 hR6 => ?_
        have j0 : S6[σ.length]? = _ := hR6.at_ g0 (by omega)
        have j1 : S6[σ.length + 1]? = _ := hR6.at_ g1 (by omega)
        have j2 : S6[S1.length]? = _ := hR6.at_ g2 (by omega)
        have l6 := zg j1
        have j3 : ∀ Z, (S6.set (σ.length + 1) Z)[σ.length + 1]? = some Z := fun Z => List.getElem?_set_self l6
        refine zt (zb j0 (zb j1 (zb j2 (zb j3 e1)))) ?_
        exact fin _ _ _ hS6 (((hRf _).trans hR5).trans hR6) l6 hK)
  cases k62 : ((e.1 : Int) == 62)
  rotate_left
  · have hq : zdb e.1 = true := by
      simp only [beq_iff_eq, beq_eq_false_iff_ne] at k0 k4 k5 k6 k71 k72 k60 k61 k62
      simp only [zdb, decide_eq_true_eq]; omega
    have ke : ¬ e.1 = 0 := by simp only [beq_iff_eq, beq_eq_false_iff_ne] at k0; omega
    cases ko : ((o.1 : Int) != 0)
    · have ko' : o.1 = 0 := by simpa using ko
      have hz : decide (e.1 = 0 ∧ o.1 = 0) = false := by simp [ke, ko']
      cases kt : ((t.1 : Int) == 0)
      · have kt' : ¬ t.1 = 0 := by simpa using kt
        have hx : (zbh s).2 = o.2 := by rw [hL, hq]; simp [ke, ko', kt']
        rw [hz1, hx] at hK
        (
        refine zt (zb d0 (zb d1 (zb d2 (zb f0 (zb f1 (zb f2 (zb f3 (zb e1 (zb hie (zb k0 (zb k4 (zb k5 (zb k6 (zb k71 (zb k72 (zb k60 (zb k61 (zb k62 (zb ko (zb kt hz)))))))))))))))))))) ?_
        exact fin _ _ _ (hSf _) (hRf _) (by simpa using hlS) hK)
      · have kt' : t.1 = 0 := by simpa using kt
        have hx : (zbh s).2 = (o.2).fail false 70 := by rw [hL, hq]; simp [ke, ko', kt']
        rw [hz1, hx] at hK
        (
        refine zt (zb d0 (zb d1 (zb d2 (zb f0 (zb f1 (zb f2 (zb f3 (zb e1 (zb hie (zb k0 (zb k4 (zb k5 (zb k6 (zb k71 (zb k72 (zb k60 (zb k61 (zb k62 (zb ko (zb kt hz)))))))))))))))))))) ?_
        refine zaq (hSf _) fun S5 hS5 hR5 => ?_
        have g0 : S5[σ.length]? = _ := hR5.at_ (f0 _) (by omega)
        have g1 : S5[σ.length + 1]? = _ := hR5.at_ (f1 _) (by omega)
        have g2 : S5[S1.length]? = _ := hR5.at_ (f2 _) (by omega)
        have l5 := zg g1
        have g3 : ∀ Z, (S5.set (σ.length + 1) Z)[σ.length + 1]? = some Z := fun Z => List.getElem?_set_self l5
        refine zt (zb g0 (zb g1 (zb g2 (zb g3 e1)))) ?_
        exact fin _ _ _ hS5 ((hRf _).trans hR5) l5 hK)
    · have ko' : ¬ o.1 = 0 := by simpa using ko
      have hz : decide (e.1 = 0 ∧ o.1 = 0) = false := by simp [ke, ko']
      cases kt : ((t.1 : Int) == 0)
      · have kt' : ¬ t.1 = 0 := by simpa using kt
        have hx : (zbh s).2 = (o.2).fail false 70 := by rw [hL, hq]; simp [ke, ko', kt']
        rw [hz1, hx] at hK
        (
        refine zt (zb d0 (zb d1 (zb d2 (zb f0 (zb f1 (zb f2 (zb f3 (zb e1 (zb hie (zb k0 (zb k4 (zb k5 (zb k6 (zb k71 (zb k72 (zb k60 (zb k61 (zb k62 (zb ko (zb kt hz)))))))))))))))))))) ?_
        refine zaq (hSf _) fun S5 hS5 hR5 => ?_
        have g0 : S5[σ.length]? = _ := hR5.at_ (f0 _) (by omega)
        have g1 : S5[σ.length + 1]? = _ := hR5.at_ (f1 _) (by omega)
        have g2 : S5[S1.length]? = _ := hR5.at_ (f2 _) (by omega)
        have l5 := zg g1
        have g3 : ∀ Z, (S5.set (σ.length + 1) Z)[σ.length + 1]? = some Z := fun Z => List.getElem?_set_self l5
        refine zt (zb g0 (zb g1 (zb g2 (zb g3 (zb d0 (zb d1 (zb d2 (zb f0 (zb f1 (zb f2 (zb f3 (zb e1 (zb hie (zb k0 (zb k4 (zb k5 (zb k6 (zb k71 (zb k72 (zb k60 (zb k61 (zb k62 (zb ko (zb kt hz)))))))))))))))))))))))) ?_
        exact fin _ _ _ hS5 ((hRf _).trans hR5) l5 hK)
      · have kt' : t.1 = 0 := by simpa using kt
        have hx : (zbh s).2 = ((o.2).fail false 70).fail false 70 := by rw [hL, hq]; simp [ke, ko', kt']
        rw [hz1, hx] at hK
        (
        refine zt (zb d0 (zb d1 (zb d2 (zb f0 (zb f1 (zb f2 (zb f3 (zb e1 (zb hie (zb k0 (zb k4 (zb k5 (zb k6 (zb k71 (zb k72 (zb k60 (zb k61 (zb k62 (zb ko (zb kt hz)))))))))))))))))))) ?_
        refine zaq (hSf _) fun S5 hS5 hR5 => ?_
        have g0 : S5[σ.length]? = _ := hR5.at_ (f0 _) (by omega)
        have g1 : S5[σ.length + 1]? = _ := hR5.at_ (f1 _) (by omega)
        have g2 : S5[S1.length]? = _ := hR5.at_ (f2 _) (by omega)
        have l5 := zg g1
        have g3 : ∀ Z, (S5.set (σ.length + 1) Z)[σ.length + 1]? = some Z := fun Z => List.getElem?_set_self l5
        refine zt (zb g0 (zb g1 (zb g2 (zb g3 (zb d0 (zb d1 (zb d2 (zb f0 (zb f1 (zb f2 (zb f3 (zb e1 (zb hie (zb k0 (zb k4 (zb k5 (zb k6 (zb k71 (zb k72 (zb k60 (zb k61 (zb k62 (zb ko (zb kt hz)))))))))))))))))))))))) ?_
        refine zaq hS5 fun S6 hS6 hR6 => ?_
        have j0 : S6[σ.length]? = _ := hR6.at_ g0 (by omega)
        have j1 : S6[σ.length + 1]? = _ := hR6.at_ g1 (by omega)
        have j2 : S6[S1.length]? = _ := hR6.at_ g2 (by omega)
        have l6 := zg j1
        have j3 : ∀ Z, (S6.set (σ.length + 1) Z)[σ.length + 1]? = some Z := fun Z => List.getElem?_set_self l6
        refine zt (zb j0 (zb j1 (zb j2 (zb j3 e1)))) ?_
        exact fin _ _ _ hS6 (((hRf _).trans hR5).trans hR6) l6 hK)
  have hq : zdb e.1 = false := by
    simp only [beq_iff_eq, beq_eq_false_iff_ne] at k0 k4 k5 k6 k71 k72 k60 k61 k62
    simp only [zdb, decide_eq_false_iff_not]; omega
  have ke : ¬ e.1 = 0 := by simp only [beq_iff_eq, beq_eq_false_iff_ne] at k0; omega
  cases ko : ((o.1 : Int) != 0)
  · have ko' : o.1 = 0 := by simpa using ko
    have hz : decide (e.1 = 0 ∧ o.1 = 0) = false := by simp [ke, ko']
    cases kt : ((t.1 : Int) == 0)
    · have kt' : ¬ t.1 = 0 := by simpa using kt
      have hx : (zbh s).2 = (o.2).fail false 70 := by rw [hL, hq]; simp [ke, ko', kt']
      rw [hz1, hx] at hK
      (
        refine zt (zb d0 (zb d1 (zb d2 (zb f0 (zb f1 (zb f2 (zb f3 (zb e1 (zb hie (zb k0 (zb k4 (zb k5 (zb k6 (zb k71 (zb k72 (zb k60 (zb k61 (zb k62 (zb ko (zb kt hz)))))))))))))))))))) ?_
        refine zaq (hSf _) fun S5 hS5 hR5 => ?_
        have g0 : S5[σ.length]? = _ := hR5.at_ (f0 _) (by omega)
        have g1 : S5[σ.length + 1]? = _ := hR5.at_ (f1 _) (by omega)
        have g2 : S5[S1.length]? = _ := hR5.at_ (f2 _) (by omega)
        have l5 := zg g1
        have g3 : ∀ Z, (S5.set (σ.length + 1) Z)[σ.length + 1]? = some Z := fun Z => List.getElem?_set_self l5
        refine zt (zb g0 (zb g1 (zb g2 (zb g3 (zb d0 (zb d1 (zb d2 (zb f0 (zb f1 (zb f2 (zb f3 (zb e1 (zb hie (zb k0 (zb k4 (zb k5 (zb k6 (zb k71 (zb k72 (zb k60 (zb k61 (zb k62 (zb ko (zb kt hz)))))))))))))))))))))))) ?_
        exact fin _ _ _ hS5 ((hRf _).trans hR5) l5 hK)
    · have kt' : t.1 = 0 := by simpa using kt
      have hx : (zbh s).2 = ((o.2).fail false 70).fail false 70 := by rw [hL, hq]; simp [ke, ko', kt']
      rw [hz1, hx] at hK
      (
        refine zt (zb d0 (zb d1 (zb d2 (zb f0 (zb f1 (zb f2 (zb f3 (zb e1 (zb hie (zb k0 (zb k4 (zb k5 (zb k6 (zb k71 (zb k72 (zb k60 (zb k61 (zb k62 (zb ko (zb kt hz)))))))))))))))))))) ?_
        refine zaq (hSf _) fun S5 hS5 hR5 => ?_
        have g0 : S5[σ.length]? = _ := hR5.at_ (f0 _) (by omega)
        have g1 : S5[σ.length + 1]? = _ := hR5.at_ (f1 _) (by omega)
        have g2 : S5[S1.length]? = _ := hR5.at_ (f2 _) (by omega)
        have l5 := zg g1
        have g3 : ∀ Z, (S5.set (σ.length + 1) Z)[σ.length + 1]? = some Z := fun Z => List.getElem?_set_self l5
        refine zt (zb g0 (zb g1 (zb g2 (zb g3 (zb d0 (zb d1 (zb d2 (zb f0 (zb f1 (zb f2 (zb f3 (zb e1 (zb hie (zb k0 (zb k4 (zb k5 (zb k6 (zb k71 (zb k72 (zb k60 (zb k61 (zb k62 (zb ko (zb kt hz)))))))))))))))))))))))) ?_
        refine zaq hS5 fun S6 hS6 hR6 => ?_
        have j0 : S6[σ.length]? = _ := hR6.at_ g0 (by omega)
        have j1 : S6[σ.length + 1]? = _ := hR6.at_ g1 (by omega)
        have j2 : S6[S1.length]? = _ := hR6.at_ g2 (by omega)
        have l6 := zg j1
        have j3 : ∀ Z, (S6.set (σ.length + 1) Z)[σ.length + 1]? = some Z := fun Z => List.getElem?_set_self l6
        refine zt (zb j0 (zb j1 (zb j2 (zb j3 e1)))) ?_
        exact fin _ _ _ hS6 (((hRf _).trans hR5).trans hR6) l6 hK)
  · have ko' : ¬ o.1 = 0 := by simpa using ko
    have hz : decide (e.1 = 0 ∧ o.1 = 0) = false := by simp [ke, ko']
    cases kt : ((t.1 : Int) == 0)
    · have kt' : ¬ t.1 = 0 := by simpa using kt
      have hx : (zbh s).2 = (o.2).fail false 70 := by rw [hL, hq]; simp [ke, ko', kt']
      rw [hz1, hx] at hK
      (
        refine zt (zb d0 (zb d1 (zb d2 (zb f0 (zb f1 (zb f2 (zb f3 (zb e1 (zb hie (zb k0 (zb k4 (zb k5 (zb k6 (zb k71 (zb k72 (zb k60 (zb k61 (zb k62 (zb ko (zb kt hz)))))))))))))))))))) ?_
        refine zaq (hSf _) fun S5 hS5 hR5 => ?_
        have g0 : S5[σ.length]? = _ := hR5.at_ (f0 _) (by omega)
        have g1 : S5[σ.length + 1]? = _ := hR5.at_ (f1 _) (by omega)
        have g2 : S5[S1.length]? = _ := hR5.at_ (f2 _) (by omega)
        have l5 := zg g1
        have g3 : ∀ Z, (S5.set (σ.length + 1) Z)[σ.length + 1]? = some Z := fun Z => List.getElem?_set_self l5
        refine zt (zb g0 (zb g1 (zb g2 (zb g3 (zb d0 (zb d1 (zb d2 (zb f0 (zb f1 (zb f2 (zb f3 (zb e1 (zb hie (zb k0 (zb k4 (zb k5 (zb k6 (zb k71 (zb k72 (zb k60 (zb k61 (zb k62 (zb ko (zb kt hz)))))))))))))))))))))))) ?_
        exact fin _ _ _ hS5 ((hRf _).trans hR5) l5 hK)
    · have kt' : t.1 = 0 := by simpa using kt
      have hx : (zbh s).2 = ((o.2).fail false 70).fail false 70 := by rw [hL, hq]; simp [ke, ko', kt']
      rw [hz1, hx] at hK
      (
        refine zt (zb d0 (zb d1 (zb d2 (zb f0 (zb f1 (zb f2 (zb f3 (zb e1 (zb hie (zb k0 (zb k4 (zb k5 (zb k6 (zb k71 (zb k72 (zb k60 (zb k61 (zb k62 (zb ko (zb kt hz)))))))))))))))))))) ?_
        refine zaq (hSf _) fun S5 hS5 hR5 => ?_
        have g0 : S5[σ.length]? = _ := hR5.at_ (f0 _) (by omega)
        have g1 : S5[σ.length + 1]? = _ := hR5.at_ (f1 _) (by omega)
        have g2 : S5[S1.length]? = _ := hR5.at_ (f2 _) (by omega)
        have l5 := zg g1
        have g3 : ∀ Z, (S5.set (σ.length + 1) Z)[σ.length + 1]? = some Z := fun Z => List.getElem?_set_self l5
        refine zt (zb g0 (zb g1 (zb g2 (zb g3 (zb d0 (zb d1 (zb d2 (zb f0 (zb f1 (zb f2 (zb f3 (zb e1 (zb hie (zb k0 (zb k4 (zb k5 (zb k6 (zb k71 (zb k72 (zb k60 (zb k61 (zb k62 (zb ko (zb kt hz)))))))))))))))))))))))) ?_
        refine zaq hS5 fun S6 hS6 hR6 => ?_
        have j0 : S6[σ.length]? = _ := hR6.at_ g0 (by omega)
        have j1 : S6[σ.length + 1]? = _ := hR6.at_ g1 (by omega)
        have j2 : S6[S1.length]? = _ := hR6.at_ g2 (by omega)
        have l6 := zg j1
        have j3 : ∀ Z, (S6.set (σ.length + 1) Z)[σ.length + 1]? = some Z := fun Z => List.getElem?_set_self l6
        refine zt (zb j0 (zb j1 (zb j2 (zb j3 e1)))) ?_
        exact fin _ _ _ hS6 (((hRf _).trans hR5).trans hR6) l6 hK)
  -- end of cases
end

end Go.Proofs.YtaocmalhjfakdaaGreat
