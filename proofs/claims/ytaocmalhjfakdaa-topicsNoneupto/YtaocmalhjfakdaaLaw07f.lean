/- The law TopicsNone, from the contracts. -/
import Derived.Test.YtaocmalhjfakdaaKn6
import Derived.Test.YtaocmalhjfakdaaHd1
import Derived.Test.YtaocmalhjfakdaaLv7
import Derived.Test.YtaocmalhjfakdaaLaw07a
set_option linter.all false
set_option maxRecDepth 100000
set_option linter.unusedSimpArgs false
set_option linter.unusedVariables false
namespace Go.Proofs.Ytaocmalhjfakdaa
open Go.AW

def tyPlc : List Ty := [.str, .int .i64, .slice [.int .u8]]
theorem dec_plc {ds : List D} (h : zdf tyPlc ds) : ∃ p : zcS, ds = zir p ∧ i64r p.offset := by
  obtain ⟨d1, ds, rfl, h1, h⟩ := zbq h
  obtain ⟨d2, ds, rfl, h2, h⟩ := zbq h
  obtain ⟨d3, ds, rfl, h3, h⟩ := zbq h
  obtain rfl := tfits_nil h
  obtain ⟨a1, rfl⟩ := dec_str h1
  obtain ⟨a2, rfl, k2⟩ := ziS h2
  obtain ⟨a3, rfl⟩ := dec_bytes h3
  exact ⟨⟨a1, a2, a3⟩, rfl, k2⟩
def noT1 : zav := (zaG zcn 0 1 ⟨1, [116], [], 0, []⟩).2.2.2
theorem noT1_at : atF [116] noT1.l 0 = some 0 := by decide +kernel
theorem noT1_get : noT1.l[0]? = some ⟨[116], 0, [], []⟩ := by rfl
theorem noT1_last : noT1.last[0]? = some (1, 0, 0) := by rfl
def noT2 : zav := { pubT noT1 0 ⟨[116], 0, [], []⟩ [1, 2, 3] with last := noT1.last.set 0 (2, 0, 0) }
theorem noT2_at : atF [116] noT2.l 0 = some 0 := by decide +kernel
theorem noT2_get : noT2.l[0]? = some ⟨[116], 0, [[1, 2, 3]], []⟩ := by rfl
theorem noT1_I : zeH noT1 := applyI .none 0 1 _
theorem noT2_I : zeH noT2 := by
  have : (zaG noT1 0 2 ⟨2, [116], [], 0, [[1, 2, 3]]⟩).2.2.2 = noT2 := by rfl
  rw [← this]
  exact applyI noT1_I 0 2 _
theorem noT_check : zaB zdm ⟨2, [116], [], 0, [[1, 2, 3]]⟩ = 0 := by decide +kernel
theorem zey.notO7 {σ : List zb} {id t g : Nat} {T : zav} {O : Nat → Prop} (h : zey σ id T O) {sz : Nat} {cs : List AV} (hr : σ[t]? = some (.row g sz cs)) : ¬ O t := fun hj => by
  obtain ⟨m, X, h1, h2, h3⟩ := h
  rcases (h3 t).1 hj with rfl | rfl | ⟨p, hp, rfl | rfl | rfl⟩
  · have := h1.box; rw [hr] at this; cases this
  · have := h1.map; rw [hr] at this; cases this
  · have := (h1.tops p hp).b; rw [hr] at this; cases this
  · have := (h1.tops p hp).g; rw [hr] at this; cases this
  · have := (h1.tops p hp).t; rw [hr] at this; cases this
theorem take_all {σ S : List zb} (h : ∀ (j : Nat) (x : zb), σ[j]? = some x → S[j]? = some x) : S.take σ.length = σ := by
  apply List.ext_getElem?
  intro i
  rw [List.getElem?_take]
  split
  · rename_i hi
    rw [h i _ (List.getElem?_eq_getElem hi), List.getElem?_eq_getElem hi]
  · rw [List.getElem?_eq_none (by omega)]
def zeZ : List (Bool × List Ty) := [(true, tyReq), (true, tyPlc)]
theorem gq26 {A P Q : Prop} (a : A) (h : Q) (e : A → Hd Q → P := by intro a h; (repeat' first | simp -dsimp only [↓zhp, ↓zbg, ↓zcG, ↓zht, ↓zhb, ↓zgZ, ↓zhc, ↓zha, ↓zcM, ↓zcI, ↓zcN, ↓zcJ, ↓zhe, ↓zcD, ↓zcO, ↓zcK, ↓zcP, ↓zcL, ↓zgX, ↓zhn, ↓zcC, ↓zcQ, ↓zgJ, ↓zgI, ↓zgT, iN, bT, bF, eN, ↓zeg, ↓unC, ↓zaj, ↓zQ, ↓zR, ↓zad, ↓zaw, ↓zbd, ↓zdI, ↓zam, ↓zcm, ↓zal, ↓zo, ↓zl, ↓zbR, ↓zh, ↓zag, ↓zL, ↓zaX, ↓zaV, ↓zd, ↓zr, ↓zn, ↓zC, ↓zan, ↓zeb, ↓zej, ↓zaF, ↓zaN, ↓zaK, ↓zby, ↓zbS, ↓zA, ↓zak, ↓zS, ↓zE, ↓zat, zeh, zcf, zcd, unA, zek, bnd, zeV, zab, zT, zeU, dm, dm1, zt, zaL, zfO, zfN, zW, Q0, Q1, Q2, Q3, Q4, Q5, zax, zB, zu, zas, zX, Q6, Q7, Q8, Q9, Q10, Q11, Q12, Q13, Q14, Nat.reduceAdd, Q15, Int.reduceToNat, Q16, Q17, Q18, Q19, Q20, reduceIte, Q21, Q22, zI, rep, zP, zgG, toD, zah, Q23, Q24, Q25, Q26, Q27, Q28, Nat.reduceLeDiff, Q29, Nat.reduceSub, Q30, Q31, Q32, sc, Q33, Q34, Q35, Q36, Q37, Q26, Q38, Q39, n0gt, n1gt, n2gt, n0eq, ziz, n1eq, n2eq, n0ne, n1ne, ziy, ziA, i0ne, i0eq, Bool.not_true, Bool.not_false, List.length_map, Nat.sub_zero, byN, a] | with_reducible refine andA ?_ | fail); exact h.go) : P := e a ⟨h⟩
theorem gq27 {P Q : Prop} (h : Q) (e : Hd Q → P := by intro h; (repeat' first | simp -dsimp only [↓zhp, ↓zbg, ↓zcG, ↓zht, ↓zhb, ↓zgZ, ↓zhc, ↓zha, ↓zcM, ↓zcI, ↓zcN, ↓zcJ, ↓zhe, ↓zcD, ↓zcO, ↓zcK, ↓zcP, ↓zcL, ↓zgX, ↓zhn, ↓zcC, ↓zcQ, ↓zgJ, ↓zgI, ↓zgT, iN, bT, bF, eN, ↓zeg, ↓unC, ↓zaj, ↓zQ, ↓zR, ↓zad, ↓zaw, ↓zbd, ↓zdI, ↓zam, ↓zcm, ↓zal, ↓zo, ↓zl, ↓zbR, ↓zh, ↓zag, ↓zL, ↓zaX, ↓zaV, ↓zd, ↓zr, ↓zn, ↓zC, ↓zan, ↓zeb, ↓zej, ↓zaF, ↓zaN, ↓zaK, ↓zby, ↓zbS, ↓zA, ↓zak, ↓zS, ↓zE, ↓zat, zeh, zcf, zcd, unA, zek, bnd, zeV, zab, zT, zeU, dm, dm1, zt, zaL, zfO, zfN, zW, Q0, Q1, Q2, Q3, Q4, Q5, zax, zB, zu, zas, zX, Q6, Q7, Q8, Q9, Q10, Q11, Q12, Q13, Q14, Nat.reduceAdd, Q15, Int.reduceToNat, Q16, Q17, Q18, Q19, Q20, reduceIte, Q21, Q22, zI, rep, zP, zgG, toD, zah, Q23, Q24, Q25, Q26, Q27, Q28, Nat.reduceLeDiff, Q29, Nat.reduceSub, Q30, Q31, Q32, sc, Q33, Q34, Q35, Q36, Q37, Q26, Q38, Q39, n0gt, n1gt, n2gt, n0eq, ziz, n1eq, n2eq, n0ne, n1ne, ziy, ziA, i0ne, i0eq, Bool.not_true, Bool.not_false, List.length_map, Bool.and_false, Bool.and_self, Bool.false_and, Bool.not_false, Bool.not_true, Bool.true_and, Int.toNat_natCast, Int.toNat_zero, List.drop_zero, List.length_map, List.length_nil, List.nil_append, List.take_length, Nat.sub_zero, Nat.zero_add, Option.isSome_none, Option.isSome_some, Option.map_none, Option.map_some, zcb, beq_self_eq_true, bne_self_eq_false] | with_reducible refine andA ?_ | fail); exact h.go) : P := e ⟨h⟩
theorem zjn (xs : List AV) (n : Nat) (hn : n ≤ 1048576) (h : ArgsOk zeZ xs n) : zi Try.prog zdn xs [] fun r _ => r = .d (.bool true) := by
  obtain ⟨ds, xs1, m1, hf, hb1, rfl, h⟩ := h
  obtain ⟨x, rfl, hxr⟩ := dec_req hf
  obtain ⟨ds, xs2, m2, hf2, hb2, rfl, rfl⟩ := h
  obtain ⟨p, rfl, hp⟩ := dec_plc hf2
  have hps : zkg p := by
    simp only [zir, zfh, zjs, bulk_bcs] at hb2
    exact ⟨hp, by omega, by omega⟩
  show zi Try.prog zdn [reqA x, .agg [.d (.str p.topic), .d (.int .i64 p.offset), .d (.slice (bcs p.rec_))]] [] _
  clear hb1 hb2 hf hf2
  obtain ⟨σ, hσ⟩ : ∃ σ : List zb, [] = σ := ⟨_, rfl⟩
  rw [hσ]
  refine zgD zes.is rfl fun hl _ => zes.goes ?_
  have fin : ∀ S, AW.Ends σ.length (fun r _ => r = .d (.bool true)) (some [.d (.bool true)]) S := fun S =>
    ends_take (by rw [← hσ]; rfl) (by simp [zju, dmT, dm, dm1, zdK]) hl rfl
  simp only [zew, iN, bT, bF, eN, zl0, zl1, reqA]
  refine gq1 ?_
  refine c_live07 ?_
  refine gq1 ?_
  have el : ∀ X Y Z : zb, (σ ++ [X, Y] ++ [Z]).length = σ.length + 3 := fun X Y Z => by simp
  rw [el]
  obtain ⟨S, hS⟩ : ∃ S, σ ++ [zb.box [.d (.int .i64 x.client), .d (.int .i64 x.time), .d (.int .i64 x.op.kind), .d (.str x.op.topic), .d (.str x.op.group), .d (.int .i64 x.op.offset), .d (.slice (zbx x.op.recs))], .box [.d (.str p.topic), .d (.int .i64 p.offset), .d (.slice (bcs p.rec_))], .box (.d .nilmap :: rep [.d (.int .i64 0)] 24), .row 0 1 [.d .nilp, .box (σ.length + 2) 0]] = S := ⟨_, rfl⟩
  have s0 : S[σ.length]? = some (.box [.d (.int .i64 x.client), .d (.int .i64 x.time), .d (.int .i64 x.op.kind), .d (.str x.op.topic), .d (.str x.op.group), .d (.int .i64 x.op.offset), .d (.slice (zbx x.op.recs))]) := by rw [← hS, zu]; rfl
  have s1 : S[σ.length + 1]? = some (.box [.d (.str p.topic), .d (.int .i64 p.offset), .d (.slice (bcs p.rec_))]) := by rw [← hS, zB]; rfl
  have s2 : S[σ.length + 2]? = some (.box (.d .nilmap :: rep [.d (.int .i64 0)] 24)) := by rw [← hS, zB]; rfl
  have s3 : S[σ.length + 3]? = some (.row 0 1 [.d .nilp, .box (σ.length + 2) 0]) := by rw [← hS, zB]; rfl
  simp only [rep, List.cons_append, List.nil_append] at hS
  rw [hS]
  refine zbW 2 (fun k vs s => vs = [.d (.int .i64 k)] ∧ ∃ τ, s = S ++ τ) ⟨rfl, [], (List.append_nil _).symm⟩ ?_
  rintro k vs s hk ⟨rfl, τ, rfl⟩
  obtain ⟨ρ, hρ⟩ : ∃ ρ, S ++ τ = ρ := ⟨_, rfl⟩
  have p0 : ∀ j X, S[j]? = some X → ∀ τ, (ρ ++ τ)[j]? = some X := fun j X h τ' => by rw [← hρ]; exact zf (zf h)
  have g0 := p0 _ _ s0
  have g1 := p0 _ _ s1
  have g2 := p0 _ _ s2
  have g3 := p0 _ _ s3
  have h0 := p0 _ _ s0 []
  have h1 := p0 _ _ s1 []
  have h2 := p0 _ _ s2 []
  have h3 := p0 _ _ s3 []
  rw [List.append_nil] at h0 h1 h2 h3
  have again : ∀ τ', ∃ τ2, ρ ++ τ' = S ++ τ2 := fun τ' => ⟨τ ++ τ', by rw [← hρ, List.append_assoc]⟩
  have hx : ∀ j : Nat, ∀ X, σ[j]? = some X → ∀ τ, (ρ ++ τ)[j]? = some X := fun j X h τ' => p0 _ _ (by rw [← hS]; exact zf h) _
  rw [hρ]
  by_cases hlt : k < 2
  · have hk2 : k = 0 ∨ k = 1 := by omega
    rcases hk2 with rfl | rfl
    · have hN0 : NoT ρ (.d .nilp) := .nil
      have hN := fun τ => hN0.app τ
      refine zaZ (zk (show decide (((0 : Nat) : Int) < ((2 - 0 : Nat) : Int)) = true from rfl) (zk h0 h3)) ?_
      refine c_noApply hN0 ?_
      refine gq1 ?_
      (
      refine c_noLast (hN _) ?_
      refine gq1 ?_
      refine zjR (hN _) ?_
      refine gq1 ?_
      refine c_noGet (hN _) ?_
      refine gq1 ?_
      refine zgw (hN _) ?_
      refine gq1 ?_
      refine ziY (hN _) ?_
      have k2 : ((2 : Int) != 2) = false := rfl
      have k0 : ((0 : Int) != 0) = false := rfl
      have kq : zbi [AV.d (.int .i64 0), AV.d (.int .i64 0)] [AV.d (.int .i64 0), AV.d (.int .i64 0)] = some true := by simp [zbi]
      refine zaZ (zk k2 (zk k0 kq)) ?_
      refine c_noNames (hN _) ?_
      refine zaZ (zk k2 k0) ?_
      refine zjP (hN _) ?_
      refine zaZ (zk k2 k0) ?_
      refine c_noBytes (hN _) ?_
      refine zaZ (zk k2 k0) ?_
      refine zjU ?_
      refine gq1 ?_
      refine zjQ (hN _) ?_
      refine zaZ (zk k2 k0) ?_
      refine c_noClone (hN _) ?_
      refine zaZ (zk k2 k0) ?_
      exact zgd.next (by omega) ⟨rfl, again _⟩
      )
    · have hN0 : NoT ρ (.box (σ.length + 2) 0) := .box _ _ h2
      have hN := fun τ => hN0.app τ
      refine zaZ (zk (show decide (((1 : Nat) : Int) < ((2 - 0 : Nat) : Int)) = true from rfl) (zk h0 h3)) ?_
      refine c_noApply hN0 ?_
      refine gq1 ?_
      (
      refine c_noLast (hN _) ?_
      refine gq1 ?_
      refine zjR (hN _) ?_
      refine gq1 ?_
      refine c_noGet (hN _) ?_
      refine gq1 ?_
      refine zgw (hN _) ?_
      refine gq1 ?_
      refine ziY (hN _) ?_
      have k2 : ((2 : Int) != 2) = false := rfl
      have k0 : ((0 : Int) != 0) = false := rfl
      have kq : zbi [AV.d (.int .i64 0), AV.d (.int .i64 0)] [AV.d (.int .i64 0), AV.d (.int .i64 0)] = some true := by simp [zbi]
      refine zaZ (zk k2 (zk k0 kq)) ?_
      refine c_noNames (hN _) ?_
      refine zaZ (zk k2 k0) ?_
      refine zjP (hN _) ?_
      refine zaZ (zk k2 k0) ?_
      refine c_noBytes (hN _) ?_
      refine zaZ (zk k2 k0) ?_
      refine zjU ?_
      refine gq1 ?_
      refine zjQ (hN _) ?_
      refine zaZ (zk k2 k0) ?_
      refine c_noClone (hN _) ?_
      refine zaZ (zk k2 k0) ?_
      exact zgd.next (by omega) ⟨rfl, again _⟩
      )
  · have k2 : k = 2 := by omega
    subst k2
    refine zaZ (show decide (((2 : Nat) : Int) < ((2 - 0 : Nat) : Int)) = false from rfl) ?_
    refine c_tpNew fun hT => ?_
    refine gq1 ?_
    have el2 : ∀ X Y : zb, (ρ ++ [X, Y]).length = ρ.length + 2 := fun X Y => by simp
    rw [el2]
    have hT0 := hT.app [.row 0 1 (byN [1, 2, 3])]
    rw [List.append_assoc] at hT0
    have m0 : (ρ ++ ([zb.map [], .box (.map ρ.length :: zbD zcn.last)] ++ [zb.row 0 1 (byN [1, 2, 3])]))[ρ.length + 2]? = some (.row 0 1 (byN [1, 2, 3])) := by rw [zB]; rfl
    have hq : ∀ j X, ρ[j]? = some X → (ρ ++ ([zb.map [], .box (.map ρ.length :: zbD zcn.last)] ++ [zb.row 0 1 (byN [1, 2, 3])]))[j]? = some X := fun j X h => zf h
    have lq : (ρ ++ ([zb.map [], .box (.map ρ.length :: zbD zcn.last)] ++ [zb.row 0 1 (byN [1, 2, 3])])).length = ρ.length + 3 := by simp
    obtain ⟨O, hO⟩ : ∃ O : Nat → Prop, (fun j => j = ρ.length + 1 ∨ j = ρ.length) = O := ⟨_, rfl⟩
    have hOl : ∀ j, O j → ρ.length ≤ j := fun j hj => by rw [← hO] at hj; omega
    obtain ⟨R, hR⟩ : ∃ R, ρ ++ ([zb.map [], .box (.map ρ.length :: zbD zcn.last)] ++ [zb.row 0 1 (byN [1, 2, 3])]) = R := ⟨_, rfl⟩
    rw [hO, hR] at hT0
    rw [hR] at m0 hq lq
    refine zi.dm ?_
    change zi Try.prog zq [.box (ρ.length + 1) 0, reqAg 0 1 ⟨1, [116], [], 0, []⟩] (ρ ++ ([zb.map [], .box (.map ρ.length :: zbD zcn.last)] ++ [zb.row 0 1 (byN [1, 2, 3])])) _
    rw [hR]
    refine zgv (c := 0) (tm := 1) (o := ⟨1, [116], [], 0, []⟩) hT0 .none (by simp) (by simp) (by simp) (by simp) fun S1 hS1 => ?_
    change After R (ρ.length + 1) noT1 O S1 at hS1
    obtain ⟨O1, hT1, hSt1, hO1⟩ := hS1
    have m1 := hSt1.at_ m0 (hT0.notO7 m0)
    have hq1 : ∀ j X, ρ[j]? = some X → S1[j]? = some X := fun j X h => hSt1.at_ (hq j X h) fun hj => by have := hOl j hj; have := zF h; omega
    refine gq1 ?_
    have m1' := fun τ => zf (τ := τ) m1
    have l1 := hSt1.len
    have lm := zF m1
    have rr : (S1 ++ [zb.row 0 1 [.rsl (ρ.length + 2) 0 1 0 3]])[S1.length]? = some (.row 0 1 [.rsl (ρ.length + 2) 0 1 0 3]) := zu ..
    refine c_applyR (n := [116]) (g := []) (off := 0) (tm := ρ.length + 2) (gm := 0) (t1 := 2) (a := (1, 0, 0)) (k := 0) (y := ⟨[116], 0, [], []⟩) (r := [1, 2, 3]) (hT1.app _) noT1_I noT1_at noT1_get (by simp) (by simp [zV.next]) (by simp) (by simp) rr (m1' _) noT_check (by simp) (by simp) noT1_last (by simp) (by simp) (by simp) fun S2 pr gp cr gc hS2 p1 p2 hTold => ?_
    change After _ (ρ.length + 1) noT2 O1 S2 at hS2
    obtain ⟨O2, hT2, hSt2, hO2⟩ := hS2
    have n1 : ¬ O1 (ρ.length + 2) := hT1.notO7 m1
    have m2 := hSt2.at_ (m1' _) n1
    have hO1l : ∀ j, O1 j → ρ.length ≤ j := fun j hj => (hO1 j hj).elim (hOl j) fun h => by omega
    have hq2 : ∀ j X, ρ[j]? = some X → S2[j]? = some X := fun j X h => hSt2.at_ (zf (hq1 j X h)) fun hj => by have := hO1l j hj; have := zF h; omega
    have np := hT2.notO7 hTold.p
    have nc := hT2.notO7 hTold.c
    have nm := hT2.notO7 m2
    simp only [List.length_append, List.length_cons, List.length_nil] at p1 p2
    have tp := hTold.p; have tc := hTold.c
    have xm : ∀ τ, (S2 ++ τ)[ρ.length + 2]? = _ := fun τ => zf m2
    have xp : ∀ τ Y, ((S2 ++ τ).set (ρ.length + 2) Y)[pr]? = _ := fun τ Y => (List.getElem?_set_ne (by omega)).trans (zf tp)
    have xc : ∀ τ Y, ((S2 ++ τ).set (ρ.length + 2) Y)[cr]? = _ := fun τ Y => (List.getElem?_set_ne (by omega)).trans (zf tc)
    refine gq26 (zk xm (zk xp (zk xc (zk (show (((1 : Nat) : Int) != 1) = false from rfl) (show (((3 : Nat) : Int) != 3) = false from rfl))))) ?_
    have hT3 := fun τ Y Z => ((hT2.app τ).set nm Y).set nc Z
    have hq3 : ∀ τ Y Z j X, ρ[j]? = some X → (((S2 ++ τ).set (ρ.length + 2) Y).set cr Z)[j]? = some X := fun τ Y Z j X h => by
      have := zF h
      rw [List.getElem?_set_ne (by omega), List.getElem?_set_ne (by omega)]
      exact zf (hq2 j X h)
    obtain ⟨V, hV⟩ : ∃ V, ((S2 ++ [zb.box [AV.d (.int .i64 0), AV.d (.int .i64 (zV.mk [116] 0 [] []).next)]]).set (ρ.length + 2) (zb.row 0 1 [AV.d (.int .u8 9), AV.d (.int .u8 (UInt8.toNat 2)), AV.d (.int .u8 (UInt8.toNat 3))])).set cr
      (zb.row gc 1 [AV.d (.int .u8 (UInt8.toNat 1)), AV.d (.int .u8 9), AV.d (.int .u8 (UInt8.toNat 3))]) = V := ⟨_, rfl⟩
    have hTV : zey V (ρ.length + 1) noT2 O2 := by rw [← hV]; exact hT3 _ _ _
    have hqV : ∀ j X, ρ[j]? = some X → V[j]? = some X := fun j X h => by rw [← hV]; exact hq3 _ _ _ j X h
    rw [hV]
    clear hT3 hq3 xm xp xc hV
    refine c_getR (y := ⟨[116], 0, [[1, 2, 3]], []⟩) (r := [1, 2, 3]) (k := 0) hTV noT2_I noT2_at noT2_get rfl rfl (by simp) (by simp) fun g2 => ?_
    have xv : ∀ a τ, (V ++ a :: τ)[V.length]? = some a := fun a τ => zu ..
    have xv2 : ∀ a τ Y, (V ++ a :: τ).set V.length Y = V ++ Y :: τ := fun a τ Y => zX ..
    have e3 : ((3 : Nat) : Int) = 3 := rfl
    have ec : ([1, 2, 3] : List UInt8).length = 3 := rfl
    rw [ec]
    refine gq26 (zk xv (zk xv2 (show (((3 : Nat) : Int) != 3) = false from rfl))) ?_
    have el1 : ∀ X : zb, (σ ++ [X]).length = σ.length + 1 := fun X => by simp
    rw [el1]
    have hB : getF noT2 [116] 0 = ([1, 2, 3], 0) := by decide +kernel
    refine c_tpGet (hTV.app _) noT2_I ?_
    rw [hB]
    have v1 : V[σ.length + 1]? = _ := hqV _ _ h1
    have v1' := fun τ => zf (τ := τ) v1
    refine gq27 ?_
    obtain ⟨W, hW⟩ : ∃ W, V ++ [zb.row g2 1 [.d (.int .u8 (UInt8.toNat 1)), .d (.int .u8 (UInt8.toNat 2)), .d (.int .u8 9)], .row 0 1 [.d (.int .u8 1), .d (.int .u8 2), .d (.int .u8 3)]] = W := ⟨_, rfl⟩
    have w1 : W[σ.length + 1]? = some (.box [.d (.str p.topic), .d (.int .i64 p.offset), .d (.slice (bcs p.rec_))]) := by rw [← hW]; exact v1' _
    have hqW : ∀ j X, ρ[j]? = some X → W[j]? = some X := fun j X h => by rw [← hW]; exact zf (hqV j X h)
    have wr : W[V.length + 1]? = some (.row 0 1 (byN [1, 2, 3])) := by rw [← hW, zB]; rfl
    rw [hW]
    have hfz := ziN (n₀ := 0) (m := 0) wr (Nat.zero_le _)
    refine zi.lend (as' := [.d (.slice (bcs [1, 2, 3])), .d (.slice (bcs [1, 2, 3]))]) 2 ?_ (zdz (a := [1, 2, 3]) (b := [1, 2, 3]) ?_)
    · have hfz' : frz W 0 2 (.rsl (V.length + 1) 0 1 0 3) = some (.slice (bcs [1, 2, 3])) := hfz
      simp only [List.map_cons, List.map_nil, frz1, hfz', frz_d, allO]
    rw [show (([1, 2, 3] : List UInt8) == [1, 2, 3]) = true from rfl]
    refine ⟨rfl, rfl, ?_⟩
    have w1' := fun τ => zf (τ := τ) w1
    refine zaZ w1 ?_
    refine c_toPlaced hps ?_
    refine zaZ w1 ?_
    refine c_r7Placed hps ?_
    refine gq1 ?_
    refine zdz (a := zgO p) (b := zgO p) ?_
    rw [beq_self_eq_true]
    refine gq1 ?_
    refine zhj (take_all fun j X h => hqW j X (by have := hx j X h []; rwa [List.append_nil] at this)) (by simp [zju, dmT, dm, dm1, zdK]) hl rfl
end Go.Proofs.Ytaocmalhjfakdaa
