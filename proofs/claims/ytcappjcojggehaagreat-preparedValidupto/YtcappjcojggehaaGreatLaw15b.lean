/- The law PreparedValid, from the contracts. -/
import Derived.Test.YtcappjcojggehaaGreatLaw15c
import Derived.Test.YtcappjcojggehaaGreatLv1
import Derived.Test.YtcappjcojggehaaGreatPr5
set_option linter.all false
set_option maxRecDepth 100000
set_option linter.unusedSimpArgs false
set_option linter.unusedVariables false
namespace Go.Proofs.YtcappjcojggehaaGreat
open Go.AW

theorem begun_case {σ : List zb} {c : TCase} (h : okC c) {K : AV → List zb → Prop} (hK : ∀ C, K (.box (σ.length + 9) 0) (σ ++ endO σ.length C (begF c.bats c.votes))) :
    zK Tryz.prog zco [.agg [.d (.int .i64 c.f), .d (.slice (c.bats.map fun l => [.slice (zho l)])), .d (.slice (c.votes.map zjU)), .d (.slice (c.specs.map zjY)), .d (.int .i64 c.view), .d (.int .i64 c.low)]] σ K :=
  c_begun h.ops h.bl h.br h.sum (fun v hv => (h.votes v hv).2.2.2.2) hK
def zfh : List (Bool × List Ty) := [(true, tyCase)]
theorem gq67 {A P Q : Prop} (a : A) (h : Q) (e : A → P = Q := by intro a; simp -dsimp only [↓zcS, ↓zal, ↓zaI, ↓zcT, ↓zcN, ↓zcL, ↓zcO, ↓zcM, ↓zaN, ↓zaJ, ↓zaO, ↓zaK, ↓zcP, ↓zaH, ↓zaP, ↓zaL, ↓zaQ, ↓zaM, ↓zcK, ↓zcQ, ↓zaG, ↓zaR, ↓zcH, ↓zcG, ↓zcJ, iN, bT, bF, eN, ↓zbI, ↓unC, ↓zJ, ↓zx, ↓zy, ↓zC, ↓zQ, ↓zaA, ↓zbD, ↓zaa, ↓zbg, ↓zU, ↓zl, ↓zu, ↓zba, ↓ze, ↓zY, ↓zH, ↓zap, ↓zaw, ↓zc, ↓zD, ↓zj, ↓zo, ↓zad, ↓zbM, ↓zbX, ↓zaf, ↓zaj, ↓zar, ↓zax, ↓zaC, ↓zh, ↓zZ, ↓zB, ↓zk, ↓zO, zbS, zaF, zaD, unA, zcd, bnd, zcp, zT, zag, zcs, dm, dm1, zN, zaq, zcv, zcu, zL, Q0, Q1, Q2, Q3, Q4, Q5, zI, zg, zr, zt, zw, Q6, Q7, Q8, Q9, Q10, Q11, Q12, Q13, Q14, Nat.reduceAdd, Q15, Int.reduceToNat, Q16, Q17, Q18, Q19, Q20, reduceIte, Q21, Q22, zq, rep, zP, zcI, toD, zae, Q23, Q24, Q25, Q26, Q27, Q28, Nat.reduceLeDiff, Q29, Nat.reduceSub, Q30, Q31, Q32, sc, Q33, Q34, Q35, Q36, Q37, Q26, Q38, Q39, zfN, zfK, zfH, zfO, zbV, zfL, zfI, zfM, zfJ, zbU, zbW, zfQ, zfR, Bool.not_true, Bool.not_false, List.length_map, zjY, a]; rfl) : P := (e a).mpr h
theorem gq68 {A P Q : Prop} (a : A) (h : Q) (e : A → P = Q := by intro a; simp -dsimp only [↓zcS, ↓zal, ↓zaI, ↓zcT, ↓zcN, ↓zcL, ↓zcO, ↓zcM, ↓zaN, ↓zaJ, ↓zaO, ↓zaK, ↓zcP, ↓zaH, ↓zaP, ↓zaL, ↓zaQ, ↓zaM, ↓zcK, ↓zcQ, ↓zaG, ↓zaR, ↓zcH, ↓zcG, ↓zcJ, iN, bT, bF, eN, ↓zbI, ↓unC, ↓zJ, ↓zx, ↓zy, ↓zC, ↓zQ, ↓zaA, ↓zbD, ↓zaa, ↓zbg, ↓zU, ↓zl, ↓zu, ↓zba, ↓ze, ↓zY, ↓zH, ↓zap, ↓zaw, ↓zc, ↓zD, ↓zj, ↓zo, ↓zad, ↓zbM, ↓zbX, ↓zaf, ↓zaj, ↓zar, ↓zax, ↓zaC, ↓zh, ↓zZ, ↓zB, ↓zk, ↓zO, zbS, zaF, zaD, unA, zcd, bnd, zcp, zT, zag, zcs, dm, dm1, zN, zaq, zcv, zcu, zL, Q0, Q1, Q2, Q3, Q4, Q5, zI, zg, zr, zt, zw, Q6, Q7, Q8, Q9, Q10, Q11, Q12, Q13, Q14, Nat.reduceAdd, Q15, Int.reduceToNat, Q16, Q17, Q18, Q19, Q20, reduceIte, Q21, Q22, zq, rep, zP, zcI, toD, zae, Q23, Q24, Q25, Q26, Q27, Q28, Nat.reduceLeDiff, Q29, Nat.reduceSub, Q30, Q31, Q32, sc, Q33, Q34, Q35, Q36, Q37, Q26, Q38, Q39, zfN, zfK, zfH, zfO, zbV, zfL, zfI, zfM, zfJ, zbU, zbW, zfQ, zfR, Bool.not_true, Bool.not_false, List.length_map, beq_self_eq_true, a]; rfl) : P := (e a).mpr h
theorem zkr (xs : List AV) (n : Nat) (hn : n ≤ 1048576) (h : ArgsOk zfh xs n) : zK Tryz.prog zdg xs [] fun r _ => r = .d (.bool true) := by
  obtain ⟨ds, xs1, m1, hf, hb1, rfl, rfl⟩ := h
  obtain ⟨q, rfl, hq⟩ := dec_case hf (by omega)
  show zK Tryz.prog zdg [.agg [.d (.int .i64 q.f), .d (.slice (q.bats.map fun l => [.slice (zho l)])), .d (.slice (q.votes.map zjU)), .d (.slice (q.specs.map zjY)), .d (.int .i64 q.view), .d (.int .i64 q.low)]] [] _
  clear hf hb1
  generalize ([] : List zb) = σ
  refine zi zeO.is rfl fun hl _ => zeO.goes ?_
  simp only [zeY, iN, bT, bF, eN]
  (repeat' first | refine gq1 ?_ | with_reducible first | exact ⟨⟩ | refine zn ?_ | fail)
  refine c_live15 ?_
  (repeat' first | refine gq1 ?_ | with_reducible first | exact ⟨⟩ | refine zn ?_ | fail)
  refine begun_case hq fun C => ?_
  have hI := begI hq.ops hq.sum
  obtain ⟨B, hB⟩ : ∃ B, begF q.bats q.votes = B := ⟨_, rfl⟩
  rw [hB] at hI ⊢
  obtain ⟨c, hc⟩ : ∃ c, σ ++ [zb.box [.d (.int .i64 q.f), .d (.slice (q.bats.map fun l => [.slice (zho l)])), .d (.slice (q.votes.map zjU)), .d (.slice (q.specs.map zjY)), .d (.int .i64 q.view), .d (.int .i64 q.low)]] = c := ⟨_, rfl⟩
  rw [hc]
  have hc0 : ∀ τ, (c ++ τ)[σ.length]? = some _ := fun τ => by rw [← hc, List.append_assoc, zr]; rfl
  obtain ⟨S, hS⟩ : ∃ S, c ++ endO c.length C B = S := ⟨_, rfl⟩
  have hcs : ∀ τ, (S ++ τ)[σ.length]? = some _ := fun τ => by rw [← hS, List.append_assoc]; exact hc0 _
  have st : ∀ τ, (S ++ τ)[c.length + 9]? = some (.box [.box (c.length + 2) 0, .box (c.length + 5) 0, .box (c.length + 7) 0, .box (c.length + 8) 0, .d (.slice (bsE B.bs)), .d (.slice (dsE B.ds)), .d (.slice (zaV B.ss))]) := fun τ => zE (hS ▸ end_st)
  have tt : zcy S _ _ _ B.L := hS ▸ end_tab
  have tl : zcz S _ _ _ B.G := hS ▸ end_led
  have tx : ∀ τ, (S ++ τ)[c.length + 7]? = some (.box [.d (.slice (zjW B.L))]) := fun τ => zE (hS ▸ end_x)
  have ty : ∀ τ, (S ++ τ)[c.length + 8]? = some (.box [.d (.slice (ziS B.G))]) := fun τ => zE (hS ▸ end_y)
  have hpre : ∃ T, S = σ ++ T := ⟨_, by rw [← hS, ← hc, List.append_assoc]⟩
  have hcs0 := hcs []
  have st0 := st []
  rw [List.append_nil] at hcs0 st0
  rw [hS]
  have h1 := hI.bl
  have h2 := hI.dl
  have h3 := hI.ss0
  have h4 := hI.ss1
  have h5 := hI.led
  have hbl := hq.bl
  have hsl := hq.sl
  have hlen : (q.specs.map zjY).length = q.specs.length := List.length_map ..
  have htl : (zjW B.L).length = B.L.length := List.length_map ..
  have hgl : (ziS B.G).length = B.G.length := List.length_map ..
  (repeat' first | refine gq2 (zp hcs0 hlen) ?_ | with_reducible first | exact ⟨⟩ | refine zn ?_ | fail)
  refine zbv q.specs.length (fun k vs s => ∃ (done : List zbN) (U : List zb), vs = [.own S.length (znj done), .d (.int .i64 k)] ∧ s = S ++ (.tok 7 k :: U) ∧ done.length = k ∧ ∀ p ∈ done, zkG p)
    (.tok 0 [] 7 rfl (by simp) (.refl _ _)) ⟨[], [], rfl, by simp, rfl, by simp⟩ ?_
  rintro k vs s hk ⟨done, U, rfl, rfl, hdl, hds⟩
  have hdl2 : (znj done).length = k := by rw [List.length_map]; exact hdl
  by_cases hlt : k < q.specs.length
  · have hd : decide ((k : Int) < (q.specs.length : Int)) = true := by simp; omega
    have hx : q.specs[k]? = some q.specs[k] := by simp [hlt]
    have hxs := hq.specs _ (List.getElem_mem hlt)
    have hgx := zaS (f := zjY) hx
    obtain ⟨p, hpe⟩ : ∃ p, q.specs[k] = p := ⟨_, rfl⟩
    rw [hpe] at hx hgx hxs
    have hw : IntKind.i64.wrap ((k : Int) + 1) = ((k + 1 : Nat) : Int) := by rw [zak (by omega) (by omega)]; rfl
    (repeat' first | refine gq67 (zp hd (zp hgx hlen)) ?_ | with_reducible first | exact ⟨⟩ | refine zn ?_ | fail)
    refine zoO (p := p) (st _) (by omega) h2 (by omega) h3 (by omega) hxs.1.2.2.2.1 hxs.1.2.2.2.2 hxs.2 ?_
    have hM := zkl hI (p := p) hxs.2
    obtain ⟨M, hMe⟩ : ∃ M, zlQ B.bs B.ds B.ss p = M := ⟨_, rfl⟩
    rw [hMe] at hM ⊢
    (repeat' first | refine gq2 (zp hdl2 (zp st hcs)) ?_ | with_reducible first | exact ⟨⟩ | refine zn ?_ | fail)
    refine zjC (p := M) (tt.app _) (tl.app _) hI.tab (by omega) hM ?_
    (repeat' first | refine gq2 (zp hdl2 (zp st hcs)) ?_ | with_reducible first | exact ⟨⟩ | refine zn ?_ | fail)
    refine znR (p := M) (tx _) (ty _) hI.tab (by omega) hM ?_
    (repeat' first | refine gq68 hw ?_ | with_reducible first | exact ⟨⟩ | refine zn ?_ | fail)
    refine zbh.next hlt ⟨done ++ [M], _, ?_, rfl, by simp [hdl], ?_⟩
    · simp [prepD]
    · intro p hp
      rcases List.mem_append.1 hp with hp | hp
      · exact hds p hp
      · simp at hp; subst hp; exact hM
  · have hd : decide ((k : Int) < (q.specs.length : Int)) = false := by simp; omega
    (repeat' first | refine gq2 (zp hd (zp st hcs)) ?_ | with_reducible first | exact ⟨⟩ | refine zn ?_ | fail)
    refine c_prAbove (l := done) (tt.app _) (tl.app _) hI.tab (by omega) hds (by omega) hq.low ?_
    (repeat' first | refine gq2 (zp st hcs) ?_ | with_reducible first | exact ⟨⟩ | refine zn ?_ | fail)
    refine c_r15Above (l := done) (tx _) (ty _) hI.tab (by omega) hds (by omega) ?_
    (repeat' first | refine gq68 (zp st (zp tx ty)) ?_ | with_reducible first | exact ⟨⟩ | refine zn ?_ | fail)
    refine c_tLen (tt.app _) ?_
    (repeat' first | refine gq68 (zp st (zp tx (zp ty htl))) ?_ | with_reducible first | exact ⟨⟩ | refine zn ?_ | fail)
    refine c_gLen (tl.app _) ?_
    (repeat' first | refine gq68 (zp st (zp tx (zp ty hgl))) ?_ | with_reducible first | exact ⟨⟩ | refine zn ?_ | fail)
    obtain ⟨T, rfl⟩ := hpre
    rw [List.append_assoc]
    (first | refine zai hl ?_ | refine zah hl ?_)
    rfl
end Go.Proofs.YtcappjcojggehaaGreat
