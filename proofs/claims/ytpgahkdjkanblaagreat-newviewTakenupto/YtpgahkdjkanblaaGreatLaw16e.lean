/- The law NewviewTaken, from the contracts. -/
import Derived.Test.YtpgahkdjkanblaaGreatMa7
import Derived.Test.YtpgahkdjkanblaaGreatMt1
import Derived.Test.YtpgahkdjkanblaaGreatBase
set_option linter.all false
set_option maxRecDepth 100000
set_option linter.unusedSimpArgs false
set_option linter.unusedVariables false
namespace Go.Proofs.YtpgahkdjkanblaaGreat
open Go.AW

def zkA := parsWorld
theorem gq75 {P Q : Prop} (h : Q) (e : Hd Q → P := by intro h; (repeat' first | simp -dsimp only [↓zfa, ↓zat, ↓zbt, ↓zfb, ↓zeW, ↓zeU, ↓zeX, ↓zeV, ↓zby, ↓zbu, ↓zbz, ↓zbv, ↓zeY, ↓zbs, ↓zbA, ↓zbw, ↓zbB, ↓zbx, ↓zeT, ↓zeZ, ↓zbr, ↓zbC, ↓zeQ, ↓zeP, ↓zeS, iN, bT, bF, eN, ↓zcO, ↓unC, ↓zP, ↓zG, ↓zH, ↓zK, ↓zW, ↓zaz, ↓zdn, ↓zau, ↓zbf, ↓zQ, ↓zg, ↓zf, ↓zbY, ↓zb, ↓zae, ↓zL, ↓zaN, ↓zaO, ↓zc, ↓zB, ↓zj, ↓zE, ↓zY, ↓zdz, ↓zdA, ↓zam, ↓zap, ↓zaK, ↓zaV, ↓zbj, ↓zm, ↓zai, ↓zJ, ↓zr, ↓zT, zdD, zbo, zbk, unA, zcZ, bnd, zdZ, zac, zR, zdT, dm, dm1, zI, zan, zeq, zep, zZ, Q0, Q1, Q2, Q3, Q4, Q5, zX, zn, zo, zF, zA, Q6, Q7, Q8, Q9, Q10, Q11, Q12, Q13, Q14, Nat.reduceAdd, Q15, Int.reduceToNat, Q16, Q17, Q18, Q19, Q20, reduceIte, Q21, Q22, zw, rep, zU, zeo, toD, zaa, Q23, Q24, Q25, Q26, Q27, Q28, Nat.reduceLeDiff, Q29, Nat.reduceSub, Q30, Q31, Q32, sc, Q33, Q34, Q35, Q36, Q37, Q26, Q38, Q39, zlJ, zlG, zlD, zlK, zeM, zlH, zlE, zlI, zlF, zeL, zeN, zlL, zlM, Bool.not_true, Bool.not_false, List.length_map, bne, zfX] | with_reducible refine zmc ?_ | fail); exact h.go) : P := e ⟨h⟩
theorem gq76 {A P Q : Prop} (a : A) (h : Q) (e : A → Hd Q → P := by intro a h; (repeat' first | simp -dsimp only [↓zfa, ↓zat, ↓zbt, ↓zfb, ↓zeW, ↓zeU, ↓zeX, ↓zeV, ↓zby, ↓zbu, ↓zbz, ↓zbv, ↓zeY, ↓zbs, ↓zbA, ↓zbw, ↓zbB, ↓zbx, ↓zeT, ↓zeZ, ↓zbr, ↓zbC, ↓zeQ, ↓zeP, ↓zeS, iN, bT, bF, eN, ↓zcO, ↓unC, ↓zP, ↓zG, ↓zH, ↓zK, ↓zW, ↓zaz, ↓zdn, ↓zau, ↓zbf, ↓zQ, ↓zg, ↓zf, ↓zbY, ↓zb, ↓zae, ↓zL, ↓zaN, ↓zaO, ↓zc, ↓zB, ↓zj, ↓zE, ↓zY, ↓zdz, ↓zdA, ↓zam, ↓zap, ↓zaK, ↓zaV, ↓zbj, ↓zm, ↓zai, ↓zJ, ↓zr, ↓zT, zdD, zbo, zbk, unA, zcZ, bnd, zdZ, zac, zR, zdT, dm, dm1, zI, zan, zeq, zep, zZ, Q0, Q1, Q2, Q3, Q4, Q5, zX, zn, zo, zF, zA, Q6, Q7, Q8, Q9, Q10, Q11, Q12, Q13, Q14, Nat.reduceAdd, Q15, Int.reduceToNat, Q16, Q17, Q18, Q19, Q20, reduceIte, Q21, Q22, zw, rep, zU, zeo, toD, zaa, Q23, Q24, Q25, Q26, Q27, Q28, Nat.reduceLeDiff, Q29, Nat.reduceSub, Q30, Q31, Q32, sc, Q33, Q34, Q35, Q36, Q37, Q26, Q38, Q39, zlJ, zlG, zlD, zlK, zeM, zlH, zlE, zlI, zlF, zeL, zeN, zlL, zlM, Bool.not_true, Bool.not_false, List.length_map, bne, zdC, a] | with_reducible refine zmc ?_ | fail); exact h.go) : P := e a ⟨h⟩
theorem zrs (xs : List AV) (n : Nat) (hn : n ≤ 1048576) (h : ArgsOk zkA xs n) : zl Tryz.prog zjO xs [] fun r _ => r = .d (.bool true) := by
  obtain ⟨tab, signs, f, view, cs, rfl, ht, htb, hs, hfr, hvr, hcl, hca, hR⟩ := args_world hn h
  clear h
  refine ze zjW.is rfl fun hl _ => zjW.goes ?_
  simp only [zkj, iN, bT, bF, eN]
  by_cases hnd : tab.Nodup
  rotate_left
  · refine zaF ?_
    refine c_made16N ht (fun b hb => Nat.le_trans (htb b hb) (by omega)) hnd ?_
    refine zaF ?_
    refine zsD ?_
    refine zaF ?_
    refine zsD ?_
    refine zaF ?_
    refine zV hl ?_
    rfl
  refine zaF ?_
  refine c_made16 ht (fun b hb => Nat.le_trans (htb b hb) (by omega)) hs hnd fun W hW hI => ?_
  obtain ⟨S, hS⟩ : ∃ S, [zhC tab signs] ++ W = S := ⟨_, rfl⟩
  have hgl : (zgK [] signs).length ≤ 1048576 := by
    have := zqa signs []
    simp only [List.length_nil, Nat.zero_add] at this
    omega
  obtain ⟨G, hG⟩ : ∃ G, zgK [] signs = G := ⟨_, rfl⟩
  rw [hG] at hgl
  rw [hS, hG] at hI
  rw [hS]
  obtain ⟨hI1, hI2, hI3, hI4⟩ := hI
  obtain ⟨n, hn⟩ : ∃ n, ([zhC tab signs] : List zd).length = n := ⟨_, rfl⟩
  rw [hn] at hI1 hI2 hI3 hI4 ⊢
  have hTI : zkx tab := ⟨hnd, ht, fun b hb => Nat.le_trans (htb b hb) (by omega)⟩
  have hTG : TG ⟨n + 2, n + 1, n + 3, n + 6, n + 5, n + 7⟩ S tab G := ⟨hI1, hI3, by simp, by simp⟩
  have hms := make_small (L := tab) (G := G) (f := f) (view := view) hcl hca
  have hmk := make_keeps (L := tab) (G := G) (f := f) (view := view) hTI hca
  refine zaF ?_
  refine zsD ?_
  refine zaF ?_
  refine c_nvMake hTG hTI hgl hcl hca hR ?_
  have htk := fun h => taken_plain (L := tab) (G := G) (f := f) (view := view) (cs := cs) hTI hca h
  obtain ⟨R, hR'⟩ : ∃ R, zkC tab G f view cs = R := ⟨_, rfl⟩
  rw [hR'] at hms hmk htk ⊢
  have r1 := zeJ ⟨n + 2, n + 1, n + 3, n + 6, n + 5, n + 7⟩ S R.L R.G
  have hTG2 := hTG.put R.L R.G
  obtain ⟨S2, hS2⟩ : ∃ S2, zev ⟨n + 2, n + 1, n + 3, n + 6, n + 5, n + 7⟩ S R.L R.G = S2 := ⟨_, rfl⟩
  rw [hS2] at r1 hTG2 ⊢
  have r1' : S.length = S2.length := r1.symm
  cases he : (R.e == 0)
  · refine gq72 (zS he r1') ?_
    exact finP (σ := []) hl rfl
  have he' : R.e = 0 := by simpa using he
  obtain ⟨R0, hR0, q1, q2, q3, q4, q5, q6⟩ := htk he'
  subst hR0
  have hlt : R.m.changes.length ≤ 1048576 := by rw [q3, List.length_take]; omega
  have hok : okNv R.m := ⟨hms, hlt, fun c hc => hca c (by rw [q3] at hc; exact List.mem_of_mem_take hc), fun c hc => hR c (by rw [q3] at hc; exact List.mem_of_mem_take hc)⟩
  refine gq72 (zS he r1') ?_
  refine c_nvCheck (M := R.m) (hTG2.tab.app _) (hTG2.led.app _) hmk.1 (by omega) hok ?_
  have e1 : chkF R.L R.G f R.m = ⟨(zga f view R.m.changes).1, R.m.entries, true⟩ := by rw [chkF, if_pos q1, q2]
  rw [e1]
  refine zlu r1' ?_
  refine zqG (zke hlt hok.each) hok.range ?_
  rw [selF_err, q4]
  have hsc := znw (f := f) (view := view) hok.each
  obtain ⟨c, hc⟩ : ∃ c, (zga f view R.m.changes).1 = c := ⟨_, rfl⟩
  obtain ⟨ys, hys⟩ : ∃ c, (zga f view R.m.changes).2.1 = c := ⟨_, rfl⟩
  have hlen : ys.length = R.m.entries.length := by
    simp only [chkB, Bool.and_eq_true, decide_eq_true_eq, q2, hys] at q1
    exact q1.2.2.2.2.2.1
  have hsig : c.signs.length ≤ 1073741824 := by
    rw [← hc]
    exact (selF_small (zke hlt hok.each)).1
  rw [hc, hys]
  rw [hys] at hsc q6
  have hel : (zah R.m.entries).length = R.m.entries.length := List.length_map ..
  have hyl : (zah ys).length = R.m.entries.length := by rw [List.length_map, hlen]
  have hcl2 : (zaL R.m.changes).length = R.m.changes.length := List.length_map ..
  have hbq : ((R.m.changes.length : Int) == zaB 2 f) = true := by rw [q5]; exact beq_self_eq_true _
  have hll : ((R.m.entries.length : Int) == (R.m.entries.length : Int)) = true := beq_self_eq_true _
  refine gq75 ?_
  refine c_sameCert (a := c) (b := c) hsig ?_
  rw [show decide (c = c) = true from decide_eq_true rfl]
  refine gq72 (zS hel (zS hyl (zS hll hcl2))) ?_
  refine c_rBig ?_
  refine gq72 (zS hbq hel) ?_
  refine zy R.m.entries.length (fun k vs s => vs = [.d (.int .i64 k)]) rfl ?_
  rintro k vs s hk rfl
  by_cases hlk : k < R.m.entries.length
  · have hd : decide ((k : Int) < (R.m.entries.length : Int)) = true := by simp; omega
    have hx : R.m.entries[k]? = some R.m.entries[k] := by simp [hlk]
    have hy : ys[k]? = some (ys[k]'(by omega)) := List.getElem?_eq_getElem _
    have hgx := zal (f := zdC) hx
    have hgy := zal (f := zdC) hy
    have hsx := (hms.entry _ (List.getElem_mem hlk)).2
    obtain ⟨x, hxe⟩ : ∃ c', R.m.entries[k] = c' := ⟨_, rfl⟩
    obtain ⟨y, hye⟩ : ∃ c', (ys[k]'(by omega)) = c' := ⟨_, rfl⟩
    rw [hxe] at hx hgx hsx
    rw [hye] at hy hgy
    have hz : (R.m.entries.zip ys)[k]? = some (x, y) := by rw [List.getElem?_zip_eq_some]; exact ⟨hx, hy⟩
    obtain ⟨w1, w2, w3⟩ := sameW_eq (List.all_eq_true.1 q6 _ (List.mem_of_getElem? hz))
    simp only at w1 w2 w3
    have hsq : (x.seq == y.seq) = true := by rw [w2]; exact beq_self_eq_true _
    refine znN (zS hd (zS hgx (zS hgy hel))) ?_
    rw [← w3]
    refine c_rqSame hsx hsx ?_
    rw [show decide (x.batch = x.batch) = true from decide_eq_true rfl]
    refine gq76 (zS hsq (zS hgx (zS hgy (wki k (by omega))))) ?_
    exact zbp.next hlk rfl
  · have hd : decide ((k : Int) < (R.m.entries.length : Int)) = false := by simp; omega
    refine zlu (zS hd hel) ?_
    exact finP (σ := []) (τ := s) hl rfl
end Go.Proofs.YtpgahkdjkanblaaGreat

/- NewviewTaken: for every input of bulk at most 1048576 the law answers true and leaves its arguments as they were. No condition beside the given row's. -/
set_option maxRecDepth 100000
namespace Go.Proofs.YtpgahkdjkanblaaGreat
open Go.AW Go.ChangeShapes Go.WideShapes Go.ChangeAt Go.RowKit
theorem zoV {H : Type} {enc : TypeId × Value → H} {P : Program} {w : World} {sp : Nat → Bool} {held : Bool} {vs : List Value} {ds gs : List (DataW H)} {ps : List MemPlace} {ts : List TypeId} (hl : ts.length = 4)
    (h : DataW.TrodAll enc P w 0 sp held ts vs ds ps) (hg : gs = []) : (Rows.newviewTakenSpec).fn H (ds ++ gs) = { results := [.lit (.bool true)], args := ds } := by
  subst hg
  have hd : ds.length = 4 := by
    have : ∀ (ts : List TypeId) (vs : List Value) (ds : List (DataW H)) (ps : List MemPlace), DataW.TrodAll enc P w 0 sp held ts vs ds ps → ds.length = ts.length := by
      intro ts
      induction ts with
      | nil => intro vs ds ps h; cases vs <;> cases ds <;> simp [DataW.TrodAll] at h ⊢
      | cons t ts ih =>
        intro vs ds ps h
        obtain ⟨v, vs', d, ds', p, q, rfl, rfl, rfl, h1, h2⟩ := trodAll_cons h
        simp [ih vs' ds' q h2]
    rw [this ts vs ds ps h, hl]
  rw [List.append_nil]
  match ds, hd with
  | [_, _, _, _], _ => rfl
theorem zoy (os : Os) (started : os.Started) (H : Type) (enc : TypeId × Value → H) (F : Stop.Interp) :
    ReturnsInHanded {} Tryz.checked os 4 .any ((Rows.OpenSpec.upto Rows.newviewTakenSpec).pre6 enc Tryz.prog Tryz.f4 Rows.newviewTakenUptoRow.domain false) (((Rows.OpenSpec.upto Rows.newviewTakenSpec).at F).post enc Tryz.prog Tryz.f4 false true false false) := by
  refine returnsInHanded_of_cond (C := Tryz.checked) (s := Rows.OpenSpec.upto Rows.newviewTakenSpec) (k := Rows.uptoSmall) rfl own started (by kernel_rfl) Tryz.func4
    (OpenSpec.witness (enc := enc) (C := Tryz.checked) (s := Rows.OpenSpec.upto Rows.newviewTakenSpec) (k := Rows.uptoSmall) rfl false ⟨#[], #[(.agg #[(.slice none 0 0), (.slice none 0 0)]), (.int .i64 0), (.int .i64 0), (.slice none 0 0)], []⟩ 24 (by kernel_rfl) (by kernel_rfl) (by kernel_rfl)
      (x := ([(.agg [.nil, .nil]), (.lit (.int .i64 0)), (.lit (.int .i64 0)), .nil], [], [])) (by kernel_rfl) rfl (by kernel_rfl)) ?_
  intro W base args ds gs before hval hW _ hk _
  have hW0 : DataW.Whole enc Tryz.prog Tryz.f4.params.toList (Rows.newviewTakenSpec).vars false W args.toList ds gs before := hW
  have hg : gs = [] := by
    obtain ⟨p, q, hA, hV, _⟩ := hW0
    cases gs with
    | nil => rfl
    | cons => simp [Rows.newviewTakenSpec, DataW.TrodVars] at hV
  refine law_calls isBulk hval hW0 (pars := zkA) (by kernel_rfl) rfl (by obtain ⟨p, q, hA, _⟩ := hW0; exact zoV (by kernel_rfl) hA hg) laidOut mapsLaid slicesFull (by kernel_rfl) (tb := 4) (by kernel_rfl) (by kernel_rfl) fun xs has => zrs xs _ ?_ has
  have := small hk
  rw [hg, List.append_nil] at this
  exact this
theorem newviewTaken_upto : Rows.NewviewTakenUptoSaid :=
  OpenClaim.holds_of_cond 4 Tryz.f4 rfl rfl rfl rfl rfl rfl rfl ⟨rfl, rfl, rfl, rfl, rfl⟩ rfl rfl rfl rfl rfl (by kernel_rfl) Tryz.func4 (by kernel_rfl)
    (of_decide_eq_true (by kernel_rfl)) (by unfold Func.isWrapper; first | (rw [if_pos (by decide +kernel)]; kernel_rfl) | (rw [if_neg (by decide +kernel)]; exact ⟨rfl, rfl⟩))
    (fun os started H enc _ F => zoy os started H enc F)
end Go.Proofs.YtpgahkdjkanblaaGreat
