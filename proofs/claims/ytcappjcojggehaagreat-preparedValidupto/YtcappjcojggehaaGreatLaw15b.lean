/- The law PreparedValid, from the contracts. -/
import Derived.Test.YtcappjcojggehaaGreatBg3
import Derived.Test.YtcappjcojggehaaGreatLv1
import Derived.Test.YtcappjcojggehaaGreatPr5
import Derived.Test.YtcappjcojggehaaGreatBase
set_option linter.all false
set_option maxRecDepth 100000
set_option linter.unusedSimpArgs false
set_option linter.unusedVariables false
namespace Go.Proofs.YtcappjcojggehaaGreat
open Go.AW

theorem begun_case {σ : List AObj} {c : TCase} (h : okC c) {K : AV → List AObj → Prop} (hK : ∀ C, K (.box (σ.length + 9) 0) (σ ++ endO σ.length C (begF c.bats c.votes))) :
    ACall Tryz.prog zbx [.agg [.d (.int .i64 c.f), .d (.slice (c.bats.map fun l => [.slice (reqsE l)])), .d (.slice (c.votes.map voteD)), .d (.slice (c.specs.map specD)), .d (.int .i64 c.view), .d (.int .i64 c.low)]] σ K :=
  c_begun h.ops h.bl h.br h.sum (fun v hv => (h.votes v hv).2.2.2.2) hK
def zek : List (Bool × List Ty) := [(true, tyCase)]
theorem gq67 {A P Q : Prop} (a : A) (h : Q) (e : A → P = Q := by intro a; simp -dsimp only [↓zae, ↓loopL, ↓binC, ↓unC, ↓zL, ↓zD, ↓zE, ↓zF, ↓zP, ↓lenC, ↓slcC, ↓convC, ↓boxC, ↓zH, ↓loadC, ↓zp, ↓nilC, ↓zh, ↓zV, ↓zr, ↓idxSC, ↓idxAC, ↓zi, ↓zG, ↓zl, ↓zt, ↓zZ, ↓maxC, ↓minC, ↓zab, ↓zac, ↓mgetC, ↓msetC, ↓mdelC, ↓zn, ↓zW, ↓zC, ↓zq, ↓zN, binA, intOp, strOp, unA, esOf, bnd, intV, zR, fillV, srcE, dm, dm1, consO, cellA, maxL, minL, keepO, Q0, Q1, Q2, Q3, Q4, Q5, zK, zm, zw, zx, zy, Q6, Q7, Q8, Q9, Q10, Q11, Q12, Q13, Q14, Nat.reduceAdd, Q15, Int.reduceToNat, Q16, Q17, Q18, Q19, Q20, reduceIte, Q21, Q22, zu, rep, zO, toDs, toD, zaa, Q23, Q24, Q25, Q26, Q27, Q28, Nat.reduceLeDiff, Q29, Nat.reduceSub, Q30, Q31, Q32, sc, Q33, Q34, Q35, Q36, Q37, Q26, Q38, Q39, n0gt, n1gt, n2gt, n0eq, n1eq0, n1eq, n2eq, n0ne, n1ne, n1ne0, n0ne1, i0ne, i0eq, Bool.not_true, Bool.not_false, List.length_map, specD, a]; rfl) : P := (e a).mpr h
theorem gq68 {A P Q : Prop} (a : A) (h : Q) (e : A → P = Q := by intro a; simp -dsimp only [↓zae, ↓loopL, ↓binC, ↓unC, ↓zL, ↓zD, ↓zE, ↓zF, ↓zP, ↓lenC, ↓slcC, ↓convC, ↓boxC, ↓zH, ↓loadC, ↓zp, ↓nilC, ↓zh, ↓zV, ↓zr, ↓idxSC, ↓idxAC, ↓zi, ↓zG, ↓zl, ↓zt, ↓zZ, ↓maxC, ↓minC, ↓zab, ↓zac, ↓mgetC, ↓msetC, ↓mdelC, ↓zn, ↓zW, ↓zC, ↓zq, ↓zN, binA, intOp, strOp, unA, esOf, bnd, intV, zR, fillV, srcE, dm, dm1, consO, cellA, maxL, minL, keepO, Q0, Q1, Q2, Q3, Q4, Q5, zK, zm, zw, zx, zy, Q6, Q7, Q8, Q9, Q10, Q11, Q12, Q13, Q14, Nat.reduceAdd, Q15, Int.reduceToNat, Q16, Q17, Q18, Q19, Q20, reduceIte, Q21, Q22, zu, rep, zO, toDs, toD, zaa, Q23, Q24, Q25, Q26, Q27, Q28, Nat.reduceLeDiff, Q29, Nat.reduceSub, Q30, Q31, Q32, sc, Q33, Q34, Q35, Q36, Q37, Q26, Q38, Q39, n0gt, n1gt, n2gt, n0eq, n1eq0, n1eq, n2eq, n0ne, n1ne, n1ne0, n0ne1, i0ne, i0eq, Bool.not_true, Bool.not_false, List.length_map, beq_self_eq_true, a]; rfl) : P := (e a).mpr h
theorem zjA (xs : List AV) (n : Nat) (hn : n ≤ 1048576) (h : ArgsOk zek xs n) : ACall Tryz.prog zcc xs [] fun r _ => r = .d (.bool true) := by
  obtain ⟨ds, xs1, m1, hf, hb1, rfl, rfl⟩ := h
  obtain ⟨q, rfl, hq⟩ := dec_case hf (by omega)
  show ACall Tryz.prog zcc [.agg [.d (.int .i64 q.f), .d (.slice (q.bats.map fun l => [.slice (reqsE l)])), .d (.slice (q.votes.map voteD)), .d (.slice (q.specs.map specD)), .d (.int .i64 q.view), .d (.int .i64 q.low)]] [] _
  clear hf hb1
  generalize ([] : List AObj) = σ
  refine zo zgl rfl fun hl _ => zhA ?_
  simp only [zdX]
  (repeat' (first | (refine gq1 ?_; try with_reducible exact True.intro) | ((with_reducible refine And.intro ?_ ?_); focus (first | omega | rfl | decide | (simp; done)))))
  refine c_live15 ?_
  (repeat' (first | (refine gq1 ?_; try with_reducible exact True.intro) | ((with_reducible refine And.intro ?_ ?_); focus (first | omega | rfl | decide | (simp; done)))))
  refine begun_case hq fun C => ?_
  have hI := begI hq.ops hq.sum
  obtain ⟨B, hB⟩ : ∃ B, begF q.bats q.votes = B := ⟨_, rfl⟩
  rw [hB] at hI ⊢
  obtain ⟨c, hc⟩ : ∃ c, σ ++ [AObj.box [.d (.int .i64 q.f), .d (.slice (q.bats.map fun l => [.slice (reqsE l)])), .d (.slice (q.votes.map voteD)), .d (.slice (q.specs.map specD)), .d (.int .i64 q.view), .d (.int .i64 q.low)]] = c := ⟨_, rfl⟩
  rw [hc]
  have hc0 : ∀ τ, (c ++ τ)[σ.length]? = some _ := fun τ => by rw [← hc, List.append_assoc, zw]; rfl
  obtain ⟨S, hS⟩ : ∃ S, c ++ endO c.length C B = S := ⟨_, rfl⟩
  have hcs : ∀ τ, (S ++ τ)[σ.length]? = some _ := fun τ => by rw [← hS, List.append_assoc]; exact hc0 _
  have st : ∀ τ, (S ++ τ)[c.length + 9]? = some (.box [.box (c.length + 2) 0, .box (c.length + 5) 0, .box (c.length + 7) 0, .box (c.length + 8) 0, .d (.slice (bsE B.bs)), .d (.slice (dsE B.ds)), .d (.slice (zaw B.ss))]) := fun τ => zI (hS ▸ end_st)
  have tt : TabAt S _ _ _ B.L := hS ▸ end_tab
  have tl : LedAt S _ _ _ B.G := hS ▸ end_led
  have tx : ∀ τ, (S ++ τ)[c.length + 7]? = some (.box [.d (.slice (tabE B.L))]) := fun τ => zI (hS ▸ end_x)
  have ty : ∀ τ, (S ++ τ)[c.length + 8]? = some (.box [.d (.slice (ledE B.G))]) := fun τ => zI (hS ▸ end_y)
  have hpre : ∃ T, S = σ ++ T := ⟨_, by rw [← hS, ← hc, List.append_assoc]⟩
  have hcs0 := hcs []
  have st0 := st []
  rw [List.append_nil] at hcs0 st0
  rw [hS]
  have h1 := hI.bl
  have h2 := hI.dl
  have h3 := hI.ss0
  have h4 := hI.ss1
  have h5 := hI.led
  have hbl := hq.bl
  have hsl := hq.sl
  have hlen : (q.specs.map specD).length = q.specs.length := List.length_map ..
  have htl : (tabE B.L).length = B.L.length := List.length_map ..
  have hgl : (ledE B.G).length = B.G.length := List.length_map ..
  (repeat' (first | (refine gq2 (gqc0 hcs0 hlen) ?_; try with_reducible exact True.intro) | ((with_reducible refine And.intro ?_ ?_); focus (first | omega | rfl | decide | (simp; done)))))
  refine zaP q.specs.length (fun k vs s => ∃ (done : List TPrep) (U : List AObj), vs = [.own S.length (zmR done), .d (.int .i64 k)] ∧ s = S ++ (.tok 7 k :: U) ∧ done.length = k ∧ ∀ p ∈ done, zkh p)
    (.tok 0 [] 7 rfl (by simp) (.refl _ _)) ⟨[], [], rfl, by simp, rfl, by simp⟩ ?_
  rintro k vs s hk ⟨done, U, rfl, rfl, hdl, hds⟩
  have hdl2 : (zmR done).length = k := by rw [List.length_map]; exact hdl
  by_cases hlt : k < q.specs.length
  · have hd : decide ((k : Int) < (q.specs.length : Int)) = true := by simp; omega
    have hx : q.specs[k]? = some q.specs[k] := by simp [hlt]
    have hxs := hq.specs _ (List.getElem_mem hlt)
    have hgx := zas (f := specD) hx
    obtain ⟨p, hpe⟩ : ∃ p, q.specs[k] = p := ⟨_, rfl⟩
    rw [hpe] at hx hgx hxs
    have hw : IntKind.i64.wrap ((k : Int) + 1) = ((k + 1 : Nat) : Int) := by rw [zad (by omega) (by omega)]; rfl
    (repeat' (first | (refine gq67 (gqc0 hd (gqc0 hgx hlen)) ?_; try with_reducible exact True.intro) | ((with_reducible refine And.intro ?_ ?_); focus (first | omega | rfl | decide | (simp; done)))))
    refine zor (p := p) (st _) (by omega) h2 (by omega) h3 (by omega) hxs.1.2.2.2.1 hxs.1.2.2.2.2 hxs.2 ?_
    have hM := zju hI (p := p) hxs.2
    obtain ⟨M, hMe⟩ : ∃ M, madeF B.bs B.ds B.ss p = M := ⟨_, rfl⟩
    rw [hMe] at hM ⊢
    (repeat' (first | (refine gq2 (gqc0 hdl2 (gqc0 st hcs)) ?_; try with_reducible exact True.intro) | ((with_reducible refine And.intro ?_ ?_); focus (first | omega | rfl | decide | (simp; done)))))
    refine ziN (p := M) (tt.app _) (tl.app _) hI.tab (by omega) hM ?_
    (repeat' (first | (refine gq2 (gqc0 hdl2 (gqc0 st hcs)) ?_; try with_reducible exact True.intro) | ((with_reducible refine And.intro ?_ ?_); focus (first | omega | rfl | decide | (simp; done)))))
    refine znj (p := M) (tx _) (ty _) hI.tab (by omega) hM ?_
    (repeat' (first | (refine gq68 hw ?_; try with_reducible exact True.intro) | ((with_reducible refine And.intro ?_ ?_); focus (first | omega | rfl | decide | (simp; done)))))
    refine Again.next hlt ⟨done ++ [M], _, ?_, rfl, by simp [hdl], ?_⟩
    · simp [prepD]
    · intro p hp
      rcases List.mem_append.1 hp with hp | hp
      · exact hds p hp
      · simp at hp; subst hp; exact hM
  · have hd : decide ((k : Int) < (q.specs.length : Int)) = false := by simp; omega
    (repeat' (first | (refine gq2 (gqc0 hd (gqc0 st hcs)) ?_; try with_reducible exact True.intro) | ((with_reducible refine And.intro ?_ ?_); focus (first | omega | rfl | decide | (simp; done)))))
    refine c_prAbove (l := done) (tt.app _) (tl.app _) hI.tab (by omega) hds (by omega) hq.low ?_
    (repeat' (first | (refine gq2 (gqc0 st hcs) ?_; try with_reducible exact True.intro) | ((with_reducible refine And.intro ?_ ?_); focus (first | omega | rfl | decide | (simp; done)))))
    refine c_r15Above (l := done) (tx _) (ty _) hI.tab (by omega) hds (by omega) ?_
    (repeat' (first | (refine gq68 (gqc0 st (gqc0 tx ty)) ?_; try with_reducible exact True.intro) | ((with_reducible refine And.intro ?_ ?_); focus (first | omega | rfl | decide | (simp; done)))))
    refine c_tLen (tt.app _) ?_
    (repeat' (first | (refine gq68 (gqc0 st (gqc0 tx (gqc0 ty htl))) ?_; try with_reducible exact True.intro) | ((with_reducible refine And.intro ?_ ?_); focus (first | omega | rfl | decide | (simp; done)))))
    refine c_gLen (tl.app _) ?_
    (repeat' (first | (refine gq68 (gqc0 st (gqc0 tx (gqc0 ty hgl))) ?_; try with_reducible exact True.intro) | ((with_reducible refine And.intro ?_ ?_); focus (first | omega | rfl | decide | (simp; done)))))
    obtain ⟨T, rfl⟩ := hpre
    rw [List.append_assoc]
    (first | refine zg (by simp [Low_d, dmT, dm, dm1, pack, zd, ze, zb]) hl ?_ | refine zf (by simp [Low_d, dmT, dm, dm1, pack, zd, ze, zb]) hl ?_)
    rfl
end Go.Proofs.YtcappjcojggehaaGreat

/- PreparedValid: for every input of bulk at most 1048576 the law answers true and leaves its arguments as they were. No condition beside the given row's. -/
set_option maxRecDepth 100000
namespace Go.Proofs.YtcappjcojggehaaGreat
open Go.AW Go.ChangeShapes Go.WideShapes Go.ChangeAt Go.RowKit
theorem zhu {H : Type} {enc : TypeId × Value → H} {P : Program} {w : World} {sp : Nat → Bool} {held : Bool} {vs : List Value} {ds gs : List (DataW H)} {ps : List MemPlace} {ts : List TypeId} (hl : ts.length = 1)
    (h : DataW.TrodAll enc P w 0 sp held ts vs ds ps) (hg : gs = []) : (Rows.preparedValidSpec).fn H (ds ++ gs) = { results := [.lit (.bool true)], args := ds } := by
  subst hg
  have hd : ds.length = 1 := by
    have : ∀ (ts : List TypeId) (vs : List Value) (ds : List (DataW H)) (ps : List MemPlace), DataW.TrodAll enc P w 0 sp held ts vs ds ps → ds.length = ts.length := by
      intro ts
      induction ts with
      | nil => intro vs ds ps h; cases vs <;> cases ds <;> simp [DataW.TrodAll] at h ⊢
      | cons t ts ih =>
        intro vs ds ps h
        obtain ⟨v, vs', d, ds', p, q, rfl, rfl, rfl, h1, h2⟩ := trodAll_cons h
        simp [ih vs' ds' q h2]
    rw [this ts vs ds ps h, hl]
  rw [List.append_nil]
  match ds, hd with
  | [_], _ => rfl
theorem zhc (os : Os) (started : os.Started) (H : Type) (enc : TypeId × Value → H) (F : Stop.Interp) :
    ReturnsInHanded {} Tryz.checked os 4 .any ((Rows.OpenSpec.upto Rows.preparedValidSpec).pre6 enc Tryz.prog Tryz.f4 Rows.preparedValidUptoRow.domain false) (((Rows.OpenSpec.upto Rows.preparedValidSpec).at F).post enc Tryz.prog Tryz.f4 false true false false) := by
  refine returnsInHanded_of_cond (C := Tryz.checked) (s := Rows.OpenSpec.upto Rows.preparedValidSpec) (k := Rows.uptoSmall) rfl own started (by kernel_rfl) Tryz.func4
    (OpenSpec.witness (enc := enc) (C := Tryz.checked) (s := Rows.OpenSpec.upto Rows.preparedValidSpec) (k := Rows.uptoSmall) rfl false ⟨#[], #[(.agg #[(.int .i64 0), (.slice none 0 0), (.slice none 0 0), (.slice none 0 0), (.int .i64 0), (.int .i64 0)])], []⟩ 24 (by kernel_rfl) (by kernel_rfl) (by kernel_rfl)
      (x := ([(.agg [(.lit (.int .i64 0)), .nil, .nil, .nil, (.lit (.int .i64 0)), (.lit (.int .i64 0))])], [], [])) (by kernel_rfl) rfl (by kernel_rfl)) ?_
  intro W base args ds gs before hval hW _ hk _
  have hW0 : DataW.Whole enc Tryz.prog Tryz.f4.params.toList (Rows.preparedValidSpec).vars false W args.toList ds gs before := hW
  have hg : gs = [] := by
    obtain ⟨p, q, hA, hV, _⟩ := hW0
    cases gs with
    | nil => rfl
    | cons => simp [Rows.preparedValidSpec, DataW.TrodVars] at hV
  refine law_calls isBulk hval hW0 (pars := zek) (by kernel_rfl) rfl (by obtain ⟨p, q, hA, _⟩ := hW0; exact zhu (by kernel_rfl) hA hg) laidOut mapsLaid slicesFull (by kernel_rfl) (tb := 4) (by kernel_rfl) (by kernel_rfl) fun xs has => zjA xs _ ?_ has
  have := small hk
  rw [hg, List.append_nil] at this
  exact this
theorem preparedValid_upto : Rows.PreparedValidUptoSaid :=
  OpenClaim.holds_of_cond 4 Tryz.f4 rfl rfl rfl rfl rfl rfl rfl ⟨rfl, rfl, rfl, rfl, rfl⟩ rfl rfl rfl rfl rfl (by kernel_rfl) Tryz.func4 (by kernel_rfl)
    (of_decide_eq_true (by kernel_rfl)) (by unfold Func.isWrapper; first | (rw [if_pos (by decide +kernel)]; kernel_rfl) | (rw [if_neg (by decide +kernel)]; exact ⟨rfl, rfl⟩))
    (fun os started H enc _ F => zhc os started H enc F)
end Go.Proofs.YtcappjcojggehaaGreat
