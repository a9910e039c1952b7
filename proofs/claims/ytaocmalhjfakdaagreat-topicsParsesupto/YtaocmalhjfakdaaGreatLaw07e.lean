/- The law TopicsParses, from the contracts. -/
import Derived.Test.YtaocmalhjfakdaaGreatKs7
import Derived.Test.YtaocmalhjfakdaaGreatKt4
import Derived.Test.YtaocmalhjfakdaaGreatSpStay
import Derived.Test.YtaocmalhjfakdaaGreatBase
set_option linter.all false
set_option maxRecDepth 100000
set_option linter.unusedSimpArgs false
set_option linter.unusedVariables false
namespace Go.Proofs.YtaocmalhjfakdaaGreat
open Go.AW

theorem norow_of {σ : List zc} {id : Nat} {T : zak} {O : Nat → Prop} (h : zfj σ id T O) {j : Nat} (hj : O j) : ∃ x, σ[j]? = some x ∧ ∀ g sz cs, x ≠ .row g sz cs := by
  obtain ⟨m, X, h1, h2, h3⟩ := h
  rcases (h3 j).1 hj with rfl | rfl | ⟨p, hp, rfl | rfl | rfl⟩
  · exact ⟨_, h1.box, fun _ _ _ h => by cases h⟩
  · exact ⟨_, h1.map, fun _ _ _ h => by cases h⟩
  · exact ⟨_, (h1.tops p hp).b, fun _ _ _ h => by cases h⟩
  · exact ⟨_, (h1.tops p hp).g, fun _ _ _ h => by cases h⟩
  · exact ⟨_, (h1.tops p hp).t, fun _ _ _ h => by cases h⟩
def zgY : List (Bool × List Ty) := [(false, [.slice [.int .u8]]), (true, tyReq)]
theorem zmp (xs : List AV) (n : Nat) (hn : n ≤ 1048576) (h : ArgsOk zgY xs n) : zn Tryz.prog zel xs [] fun r _ => r = .d (.bool true) := by
  obtain ⟨ds, xs1, m1, hf, hb1, rfl, h⟩ := h
  obtain ⟨d, rfl, h1⟩ := one_of hf
  obtain ⟨b, rfl⟩ := dec_bytes h1
  obtain ⟨ds, xs2, m2, hf, hb2, rfl, rfl⟩ := h
  obtain ⟨x, rfl, hxr⟩ := dec_req hf
  have hx := reqD_sz (x := x) (n := 1048576) (by omega) (by omega)
  have hbl : b.length ≤ 1048576 := by simp only [zgz, zlL, bulk_bcs] at hb1; omega
  show zn Tryz.prog zel [.d (.slice (bcs b)), reqA x] [] _
  clear hb1 hb2 hf h1
  obtain ⟨z1, z2, z3, z4⟩ := opSz_parts hx
  obtain ⟨σ, hσ⟩ : ∃ σ : List zc, [] = σ := ⟨_, rfl⟩
  rw [hσ]
  refine znT zkQ fun hl => ?_
  have fin : ∀ S, AW.Ends σ.length (fun r _ => r = .d (.bool true)) (some [.d (.bool true)]) S := fun S =>
    ziC (by rw [← hσ]; rfl) (by simp [zeB, dmT, dm, dm1, zcJ]) hl rfl
  simp only [zgK, iN, bT, bF, eN, reqA]
  refine zby ?_
  refine c_live07 ?_
  refine zby ?_
  obtain ⟨B, hB⟩ : ∃ B, zc.box [.d (.int .i64 x.client), .d (.int .i64 x.time), .d (.int .i64 x.op.kind), .d (.str x.op.topic), .d (.str x.op.group), .d (.int .i64 x.op.offset), .d (.slice (zK x.op.recs))] = B := ⟨_, rfl⟩
  rw [hB]
  have gB : (σ ++ [B])[σ.length]? = some B := by rw [zj]; rfl
  obtain ⟨S0, hS0⟩ : ∃ S0, σ ++ [B] = S0 := ⟨_, rfl⟩
  rw [hS0] at gB ⊢
  have l0 := zg gB
  obtain ⟨hp1, hp2⟩ := both_parse b
  refine c_tpParse (b := b) (by omega) (fun hno S1 hl1 hpre1 => ?_) fun hyes S1 id O hT hO hl1 hpre1 => ?_
  · refine zby ?_
    refine c_rParse (b := b) (by omega) (fun _ S2 hl2 hpre2 => ?_) fun hd => absurd (hp1.1 hd) hno
    refine zt (zb (show ((70 : Int) != 70) = false from rfl) (zb (show ((70 : Int) == 0) = false from rfl) (zb (show ((70 : Int) != 0) = true from rfl) (show (false == false) = true from rfl)))) ?_
    exact fin _
  · have hd : DOk b := hp1.2 hyes
    obtain ⟨hq, hW⟩ := hp2 hd
    obtain ⟨hI, hL⟩ := topsW_I hW
    have h8 := hW.last
    refine zby ?_
    refine c_rParse (b := b) (by omega) (fun hno => absurd hd hno) fun _ S2 e t g hD he ht hl2 hpre2 => ?_
    rw [hq] at hD
    obtain ⟨T, hTT⟩ : ∃ T, zoV b = T := ⟨_, rfl⟩
    rw [hTT] at hT hD hI hL h8
    have hT2 : zfj S2 id T O := hT.keep fun j hj => hpre2 j (hT.own_lt hj)
    have gB2 : S2[σ.length]? = some B := by rw [hpre2 _ (by omega), hpre1 _ l0]; exact gB
    have nOe : ¬ O e := fun h => by have := hT.own_lt h; omega
    have nOt : ¬ O t := fun h => by have := hT.own_lt h; omega
    have gBx := gB2
    rw [← hB] at gBx
    refine zt (zb (show ((0 : Int) != 0) = false from rfl) (zb (show ((0 : Int) == 0) = true from rfl) (zb (show (true == true) = true from rfl) gBx))) ?_
    refine zkU (c := x.client) (tm := x.time) (o := x.op) hT2 hI (by omega) (by omega) (by omega) (fun r hr => by have := z4 r hr; omega) fun S3 hS3 => ?_
    have hI' := applyI hI x.client x.time x.op
    have hL' := applyL hI hL x.client x.time x.op
    obtain ⟨A, hA⟩ : ∃ A, zaL T x.client x.time x.op = A := ⟨_, rfl⟩
    rw [hA] at hS3 hI' hL' ⊢
    obtain ⟨O', hT3, hSt, hO'⟩ := hS3
    have hD3 : zbT S3 e t g T := ⟨hSt.at_ hD.box nOe, hSt.at_ hD.row nOt, hD.last⟩
    have hel := zg hD.box
    have nO : ¬ O' e := fun hj => (hO' _ hj).elim nOe fun h => by omega
    have nOs : ¬ O σ.length := fun h => by have := hO _ h; omega
    have gB3 : S3[σ.length]? = some B := hSt.at_ gB2 nOs
    have lB := zg gB3
    rw [← hB] at gB3
    have xB : ∀ τ, (S3 ++ τ)[σ.length]? = _ := fun τ => zf gB3
    have xl : ∀ a τ, (S3 ++ a :: τ)[S3.length]? = some a := fun a τ => zj ..
    refine zt (zb xB xl) ?_
    refine c_r7Apply (c := x.client) (tm := x.time) (o := x.op) (hD3.app _) hI.len hI.tops (by omega) (by omega) (by omega) (fun r hr => by have := z4 r hr; omega) fun S4 t4 g4 hD4 hS4 => ?_
    rw [hA] at hD4 ⊢
    have hT4 : zfj S4 id A.2.2.2 O' := (hT3.app _).keep fun j hj => by
      obtain ⟨y, hy, hr⟩ := norow_of (hT3.app _) hj
      rw [hy]
      exact hS4.get j y hy (fun e' => nO (e' ▸ hj)) hr
    have hes : σ.length ≠ e := by omega
    have gR : S4[S3.length]? = some (.box [.d (.int .i64 A.1.1), .d (.int .i64 A.1.2)]) := hS4.get _ _ (xl _ _) (by have := zg hD3.box; omega) (fun _ _ _ h => by cases h)
    have gB4 := hS4.get _ _ (xB [.box [.d (.int .i64 A.1.1), .d (.int .i64 A.1.2)]]) hes (fun _ _ _ h => by cases h)
    have yR : ∀ τ, (S4 ++ τ)[S3.length]? = _ := fun τ => zf gR
    have yB : ∀ τ, (S4 ++ τ)[σ.length]? = _ := fun τ => zf gB4
    have yl : ∀ a τ, (S4 ++ a :: τ)[S4.length]? = some a := fun a τ => zj ..
    have k6 : zcl [AV.d (.int .i64 A.1.1), AV.d (.int .i64 A.1.2)] [AV.d (.int .i64 A.1.1), AV.d (.int .i64 A.1.2)] = some true := by simp [zcl]
    have k8 : (A.2.2.1 == A.2.2.1) = true := by simp
    refine zt (zb yR (zb yB (zb yl (zb k6 k8)))) ?_
    refine c_same (o := x.op) (hT4.app _) (hD4.app _) hI' hL' ?_
    refine zt k8 ?_
    exact fin _
open Go.AW Go.ChangeShapes Go.WideShapes Go.ChangeAt Go.RowKit
theorem zkt {H : Type} {enc : TypeId × Value → H} {P : Program} {w : World} {sp : Nat → Bool} {held : Bool} {vs : List Value} {ds gs : List (DataW H)} {ps : List MemPlace} {ts : List TypeId} (hl : ts.length = 2)
    (h : DataW.TrodAll enc P w 0 sp held ts vs ds ps) (hg : gs = []) : (Rows.topicsParsesSpec).fn H (ds ++ gs) = { results := [.lit (.bool true)], args := ds } := by
  subst hg
  have hd : ds.length = 2 := by
    have : ∀ (ts : List TypeId) (vs : List Value) (ds : List (DataW H)) (ps : List MemPlace), DataW.TrodAll enc P w 0 sp held ts vs ds ps → ds.length = ts.length := by
      intro ts
      induction ts with
      | nil => intro vs ds ps h; cases vs <;> cases ds <;> simp [DataW.TrodAll] at h ⊢
      | cons t ts ih =>
        intro vs ds ps h
        obtain ⟨v, vs', d, ds', p, q, rfl, rfl, rfl, h1, h2⟩ := trodAll_cons h
        simp [ih vs' ds' q h2]
    rw [this ts vs ds ps h, hl]
  rw [List.append_nil]
  match ds, hd with
  | [_, _], _ => rfl
theorem zjS (os : Os) (started : os.Started) (H : Type) (enc : TypeId × Value → H) (F : Stop.Interp) :
    ReturnsInHanded {} Tryz.checked os 3 .any ((Rows.OpenSpec.upto Rows.topicsParsesSpec).pre6 enc Tryz.prog Tryz.f3 Rows.topicsParsesUptoRow.domain false) (((Rows.OpenSpec.upto Rows.topicsParsesSpec).at F).post enc Tryz.prog Tryz.f3 false true false false) := by
  refine returnsInHanded_of_cond (C := Tryz.checked) (s := Rows.OpenSpec.upto Rows.topicsParsesSpec) (k := Rows.uptoSmall) rfl own started (by kernel_rfl) Tryz.func3
    (OpenSpec.witness (enc := enc) (C := Tryz.checked) (s := Rows.OpenSpec.upto Rows.topicsParsesSpec) (k := Rows.uptoSmall) rfl false ⟨#[], #[(.slice none 0 0), (.agg #[(.int .i64 0), (.int .i64 0), (.int .i64 0), (.string .empty), (.string .empty), (.int .i64 0), (.slice none 0 0)])], []⟩ 24 (by kernel_rfl) (by kernel_rfl) (by kernel_rfl)
      (x := ([.nil, (.agg [(.lit (.int .i64 0)), (.lit (.int .i64 0)), (.agg [(.lit (.int .i64 0)), (.lit (.string [])), (.lit (.string [])), (.lit (.int .i64 0)), .nil])])], [], [])) (by kernel_rfl) rfl (by kernel_rfl)) ?_
  intro W base args ds gs before hval hW _ hk _
  have hW0 : DataW.Whole enc Tryz.prog Tryz.f3.params.toList (Rows.topicsParsesSpec).vars false W args.toList ds gs before := hW
  have hg : gs = [] := by
    obtain ⟨p, q, hA, hV, _⟩ := hW0
    cases gs with
    | nil => rfl
    | cons => simp [Rows.topicsParsesSpec, DataW.TrodVars] at hV
  refine law_calls isBulk hval hW0 (pars := zgY) (by kernel_rfl) rfl (by obtain ⟨p, q, hA, _⟩ := hW0; exact zkt (by kernel_rfl) hA hg) laidOut mapsLaid slicesFull (by kernel_rfl) (tb := 4) (by kernel_rfl) (by kernel_rfl) fun xs has => zmp xs _ ?_ has
  have := small hk
  rw [hg, List.append_nil] at this
  exact this
theorem topicsParses_upto : Rows.TopicsParsesUptoSaid :=
  OpenClaim.holds_of_cond 3 Tryz.f3 rfl rfl rfl rfl rfl rfl rfl ⟨rfl, rfl, rfl, rfl, rfl⟩ rfl rfl rfl rfl rfl (by kernel_rfl) Tryz.func3 (by kernel_rfl)
    (of_decide_eq_true (by kernel_rfl)) (by unfold Func.isWrapper; first | (rw [if_pos (by decide +kernel)]; kernel_rfl) | (rw [if_neg (by decide +kernel)]; exact ⟨rfl, rfl⟩))
    (fun os started H enc _ F => zjS os started H enc F)
end Go.Proofs.YtaocmalhjfakdaaGreat
