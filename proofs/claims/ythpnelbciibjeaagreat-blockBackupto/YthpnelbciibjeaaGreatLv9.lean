/- Contracts: a header that the document fixes. -/
import Derived.Test.YthpnelbciibjeaaGreatBk2
import Derived.Test.YthpnelbciibjeaaGreatBk3
import Derived.Test.YthpnelbciibjeaaGreatSpStay
import Derived.Test.YthpnelbciibjeaaGreatSpNum
import Derived.Test.YthpnelbciibjeaaGreatBase
set_option linter.all false
set_option maxRecDepth 100000
set_option linter.unusedSimpArgs false
set_option linter.unusedVariables false
namespace Go.Proofs.YthpnelbciibjeaaGreat
open Go.AW

def lv9L : List (List UInt8) := (genF []).2.2
abbrev lv9H : zfg := ⟨0, 0, 0, 1, 2⟩
theorem lv9_gen : genF [] = (lv9H, 0, lv9L) := by
  have h1 : (genF []).1 = lv9H := by decide +kernel
  have h2 : (genF []).2.1 = 0 := by decide +kernel
  rw [← h1, ← h2]; rfl
theorem lv9_I : TabI lv9L := ⟨by decide +kernel, by decide +kernel, by decide +kernel⟩
def lv9X : ExecR := exec0 lv9L zcI lv9H []
theorem lv9_ok : ExOk lv9L zcI lv9H [] := ⟨by decide +kernel, by decide +kernel, by decide +kernel, by decide +kernel, by decide +kernel, by decide +kernel⟩
theorem lv9_h : lv9X.h.seq = 1 ∧ lv9X.h.state = 2 ∧ zcK lv9X.p = [] := ⟨by decide +kernel, by decide +kernel, rfl⟩
theorem lv9_J : TabI lv9X.L := ⟨by decide +kernel, by decide +kernel, by decide +kernel⟩
theorem lv9_chain : chainF lv9X.L [lv9H, lv9X.h] = true ∧ chainF lv9X.L [lv9X.h, lv9H] = false := ⟨by decide +kernel, by decide +kernel⟩
section

variable {σ : List zc} {K : AV → List zc → Prop}

theorem c_live09 (hK : K (.d (.bool true)) σ) : zt Tryz.prog zky [] σ K := by
  refine acE0 e_l09_live fun hl => ?_
  simp only [znY, iN, bT, bF, eN]
  refine gq1 ?_
  refine znR ?_
  have hT0 := zlQ σ [] []
  have hp0 := znu σ [] lv9L []
  simp only [List.append_nil] at hT0 hp0
  refine gq1 ?_
  refine c_blGenesis hT0 .nil ?_
  rw [lv9_gen]
  rw [hp0]
  have hT1 := zlQ σ lv9L []
  simp only [List.append_nil] at hT1
  obtain ⟨S, hS⟩ : ∃ S, σ ++ tabO σ.length lv9L = S := ⟨_, rfl⟩
  have hl1 : S.length = σ.length + 3 := by rw [← hS]; simp
  have hpre : ∀ j x, σ[j]? = some x → S[j]? = some x := fun j x h => by rw [← hS]; exact zf h
  rw [hS] at hT1 ⊢
  refine gq1 ?_
  refine c_tpNew fun hP => ?_
  have el : ∀ X : zc, (S ++ [X]).length = S.length + 1 := fun X => by simp
  rw [el] at hP ⊢
  have xS : ∀ a τ, (S ++ a :: τ)[S.length]? = some a := fun a τ => zq ..
  have k5 : zbN [AV.d (.int .i64 0), AV.d (.int .i64 0), AV.d (.int .i64 0), AV.d (.int .i64 1), AV.d (.int .i64 2)] [AV.d (.int .i64 0), AV.d (.int .i64 0), AV.d (.int .i64 0), AV.d (.int .i64 1), AV.d (.int .i64 2)] = some true := by decide +kernel
  refine gq2 (zg (show ((0 : Int) != 0) = false from rfl) (zg k5 xS)) ?_
  rw [List.append_assoc] at hP
  obtain ⟨O, hO⟩ : ∃ O : Nat → Prop, (fun j => j = S.length + 1 + 1 ∨ j = S.length + 1) = O := ⟨_, rfl⟩
  have hOl : ∀ j, O j → S.length + 1 ≤ j := fun j hj => by rw [← hO] at hj; omega
  rw [hO] at hP
  have hLast : zmT zcI.last := fun a ha => by
    have := List.eq_of_mem_replicate ha
    subst this
    simp
  refine c_blExecute (h := lv9H) (b := []) (hT1.app _) lv9_I hP .none hLast (fun h => by have := hOl _ h; omega) (fun h => by have := hOl _ h; omega) (fun h => by have := hOl _ h; omega) (by simp) (by simp) lv9_ok fun S2 O2 N hP2 hT2 _ hl2 hrest hN => ?_
  rw [show exec0 lv9L zcI lv9H [] = lv9X from rfl] at hT2 ⊢
  obtain rfl : N = [] := List.length_eq_zero_iff.1 hN
  have gS : S2[S.length]? = some (boxH lv9H) := hrest _ _ (zq ..) (by omega) (by omega) (by omega) (fun h => by have := hOl _ h; omega)
  have hpre2 : ∀ j x, σ[j]? = some x → S2[j]? = some x := fun j x h => by
    have := zl h
    exact hrest _ _ (zf (hpre j x h)) (by omega) (by omega) (by omega) (fun h => by have := hOl _ h; omega)
  obtain ⟨h1, h2, h3⟩ := lv9_h
  obtain ⟨h4, h5⟩ := lv9_chain
  have hJ := lv9_J
  rw [h3]
  obtain ⟨X, hX⟩ : ∃ X, lv9X.h = X := ⟨_, rfl⟩
  obtain ⟨LX, hLX⟩ : ∃ LX, lv9X.L = LX := ⟨_, rfl⟩
  rw [hX] at h1 h2 h4 h5 ⊢
  rw [hLX] at h4 h5 hT2 hJ
  have gS' : ∀ τ, (S2 ++ τ)[S.length]? = _ := fun τ => zf gS
  have xS2 : ∀ a τ, (S2 ++ a :: τ)[S2.length]? = some a := fun a τ => zq ..
  have q1 : (X.seq == 1) = true := by rw [h1]; rfl
  have q2 : (X.state == 2) = true := by rw [h2]; rfl
  refine gq24 (zg (show ((0 : Int) == 0) = true from rfl) (zg q1 (zg q2 (zg gS' (zg xS2 (show (((0 : Nat) : Int) == 0) = true from rfl)))))) ?_
  refine c_blChain (l := [lv9H, X]) (hT2.app _) hJ (by simp) ?_
  rw [h4]
  refine gq2 (zg gS' xS2) ?_
  refine c_blChain (l := [X, lv9H]) (hT2.app _) hJ (by simp) ?_
  rw [h5]
  refine gq1 ?_
  exact znN (take_all fun j x h => zf (hpre2 j x h)) (by simp [zdq, dmT, dm, dm1, zbz]) hl hK
end


def tyH9 : List Ty := [.int .i64, .int .i64, .int .i64, .int .i64, .int .i64]
theorem dec_h9 {ds : List D} (h : zeJ tyH9 ds) : ∃ x : zfg, ds = hdrD x := by
  obtain ⟨d1, ds, rfl, h1, h⟩ := zgd h
  obtain ⟨d2, ds, rfl, h2, h⟩ := zgd h
  obtain ⟨d3, ds, rfl, h3, h⟩ := zgd h
  obtain ⟨d4, ds, rfl, h4, h⟩ := zgd h
  obtain ⟨d5, ds, rfl, h5, h⟩ := zgd h
  obtain rfl := tfits_nil h
  obtain ⟨a1, rfl, k1⟩ := zmD h1
  obtain ⟨a2, rfl, k2⟩ := zmD h2
  obtain ⟨a3, rfl, k3⟩ := zmD h3
  obtain ⟨a4, rfl, k4⟩ := zmD h4
  obtain ⟨a5, rfl, k5⟩ := zmD h5
  exact ⟨⟨a1, a2, a3, a4, a5⟩, rfl⟩
theorem ints5 (a b c d e : Int) : zbN [AV.d (.int .i64 a), AV.d (.int .i64 b), AV.d (.int .i64 c), AV.d (.int .i64 d), AV.d (.int .i64 e)] [AV.d (.int .i64 a), AV.d (.int .i64 b), AV.d (.int .i64 c), AV.d (.int .i64 d), AV.d (.int .i64 e)] = some true := by simp [zbN]

def ziD : List (Bool × List Ty) := [(true, tyH9), (false, [.slice [.int .u8]])]
theorem zow (xs : List AV) (n : Nat) (hn : n ≤ 1048576) (h : ArgsOk ziD xs n) : zt Tryz.prog zfl xs [] fun r _ => r = .d (.bool true) := by
  obtain ⟨ds, xs1, m1, hf1, hb1, rfl, h⟩ := h
  obtain ⟨x, rfl⟩ := dec_h9 hf1
  obtain ⟨ds, xs2, m2, hf, hb2, rfl, rfl⟩ := h
  obtain ⟨d, rfl, h1⟩ := one_of hf
  obtain ⟨b, rfl⟩ := dec_bytes h1
  have hbl : b.length ≤ 1048576 := by simp only [zhv, znk, bulk_bcs] at hb2; omega
  show zt Tryz.prog zfl [hdrA x, .d (.slice (bcs b))] [] _
  clear hb1 hb2 hf h1 hf1
  obtain ⟨σ, hσ⟩ : ∃ σ : List zc, [] = σ := ⟨_, rfl⟩
  rw [hσ]
  refine zlh zmz fun hl => ?_
  have fin : ∀ S, AW.Ends σ.length (fun r _ => r = .d (.bool true)) (some [.d (.bool true)]) S := fun S =>
    ends_take (by rw [← hσ]; rfl) (by simp [zdq, dmT, dm, dm1, zbz]) hl rfl
  simp only [zhA, iN, bT, bF, eN]
  refine gq1 ?_
  refine c_live09 ?_
  refine gq1 ?_
  have tail : ∀ S, cA Tryz.prog zdH [.d (.slice (bcs b))] S fun e s =>
     zd e 0 s fun f s =>
     zd e 1 s fun g s =>
     cp [iN 0, iN 0, iN 0, iN 0, iN 0] 5 f s fun h s =>
     bP .eql g (iN 0) s fun i s =>
     zu i (zr true 5 h s fun j s =>
     cA Tryz.prog zbX [j] s fun l s =>
     zd l 0 s fun m s =>
     zd l 1 s fun n s =>
     bP .eql n (iN 0) s fun o s =>
     gTm o m s fun p s =>
     gTm o (.d (.slice (bcs b))) s fun q s =>
     gT o (cA Tryz.prog zcD [p, q] s) s fun r s =>
     anC o r s fun u s =>
     z1 (AW.Ends σ.length fun r _ => r = .d (.bool true)) u s) (z1 (AW.Ends σ.length fun r _ => r = .d (.bool true)) bT s) := fun S => by
    refine c_blParse (b := b) (by omega) ?_
    have hof : ∀ h, hdrP false b = (h, 0) → zaJ h = 0 ∧ znd h = b := fun h => hdrP_of
    obtain ⟨P, hP⟩ : ∃ P, hdrP false b = P := ⟨_, rfl⟩
    rw [hP] at hof ⊢
    have xS : ∀ a τ, (S ++ a :: τ)[S.length]? = some a := fun a τ => zq ..
    cases c0 : (P.2 == 0)
    · refine gq2 c0 ?_
      exact fin _
    · have p0 : P.2 = 0 := by simpa using c0
      obtain ⟨q1, q2⟩ := hof P.1 (by rw [← p0])
      refine gq2 (zg c0 xS) ?_
      refine zjR (h := P.1) ?_
      rw [zlC q1, q1, q2]
      refine gq4 ?_
      refine zgK ?_
      rw [beq_self_eq_true]
      refine gq1 ?_
      exact fin _
  refine zjR (h := x) ?_
  cases c1 : (zaJ x == 0)
  · refine gq2 c1 ?_
    exact tail _
  · have h1 : zaJ x = 0 := by simpa using c1
    rw [zlC h1]
    refine gq2 c1 ?_
    have := zox (zdO.1 h1)
    refine c_blParse (b := znd x) (by omega) ?_
    rw [hdrP_back false h1]
    have x0 : ∀ τ, (σ ++ boxH x :: τ)[σ.length]? = some (boxH x) := fun τ => zq ..
    have k5 := ints5 x.seq x.prev x.batch x.root x.state
    refine gq2 (zg (show ((0 : Int) != 0) = false from rfl) k5) ?_
    exact tail _
open Go.AW Go.ChangeShapes Go.WideShapes Go.ChangeAt Go.RowKit
theorem zlV {H : Type} {enc : TypeId × Value → H} {P : Program} {w : World} {sp : Nat → Bool} {held : Bool} {vs : List Value} {ds gs : List (DataW H)} {ps : List MemPlace} {ts : List TypeId} (hl : ts.length = 2)
    (h : DataW.TrodAll enc P w 0 sp held ts vs ds ps) (hg : gs = []) : (Rows.blockBackSpec).fn H (ds ++ gs) = { results := [.lit (.bool true)], args := ds } := by
  subst hg
  have hd : ds.length = 2 := by
    have : ∀ (ts : List TypeId) (vs : List Value) (ds : List (DataW H)) (ps : List MemPlace), DataW.TrodAll enc P w 0 sp held ts vs ds ps → ds.length = ts.length := by
      intro ts
      induction ts with
      | nil => intro vs ds ps h; cases vs <;> cases ds <;> simp [DataW.TrodAll] at h ⊢
      | cons t ts ih =>
        intro vs ds ps h
        obtain ⟨v, vs', d, ds', p, q, rfl, rfl, rfl, h1, h2⟩ := trodAll_cons h
        simp [ih vs' ds' q h2]
    rw [this ts vs ds ps h, hl]
  rw [List.append_nil]
  match ds, hd with
  | [_, _], _ => rfl
theorem zls (os : Os) (started : os.Started) (H : Type) (enc : TypeId × Value → H) (F : Stop.Interp) :
    ReturnsInHanded {} Tryz.checked os 5 .any ((Rows.OpenSpec.upto Rows.blockBackSpec).pre6 enc Tryz.prog Tryz.f5 Rows.blockBackUptoRow.domain false) (((Rows.OpenSpec.upto Rows.blockBackSpec).at F).post enc Tryz.prog Tryz.f5 false true false false) := by
  refine returnsInHanded_of_cond (C := Tryz.checked) (s := Rows.OpenSpec.upto Rows.blockBackSpec) (k := Rows.uptoSmall) rfl own started (by kernel_rfl) Tryz.func5
    (OpenSpec.witness (enc := enc) (C := Tryz.checked) (s := Rows.OpenSpec.upto Rows.blockBackSpec) (k := Rows.uptoSmall) rfl false ⟨#[], #[(.agg #[(.int .i64 0), (.int .i64 0), (.int .i64 0), (.int .i64 0), (.int .i64 0)]), (.slice none 0 0)], []⟩ 24 (by kernel_rfl) (by kernel_rfl) (by kernel_rfl)
      (x := ([(.agg [(.lit (.int .i64 0)), (.lit (.int .i64 0)), (.lit (.int .i64 0)), (.lit (.int .i64 0)), (.lit (.int .i64 0))]), .nil], [], [])) (by kernel_rfl) rfl (by kernel_rfl)) ?_
  intro W base args ds gs before hval hW _ hk _
  have hW0 : DataW.Whole enc Tryz.prog Tryz.f5.params.toList (Rows.blockBackSpec).vars false W args.toList ds gs before := hW
  have hg : gs = [] := by
    obtain ⟨p, q, hA, hV, _⟩ := hW0
    cases gs with
    | nil => rfl
    | cons => simp [Rows.blockBackSpec, DataW.TrodVars] at hV
  refine law_calls isBulk hval hW0 (pars := ziD) (by kernel_rfl) rfl (by obtain ⟨p, q, hA, _⟩ := hW0; exact zlV (by kernel_rfl) hA hg) laidOut mapsLaid slicesFull (by kernel_rfl) (tb := 4) (by kernel_rfl) (by kernel_rfl) fun xs has => zow xs _ ?_ has
  have := small hk
  rw [hg, List.append_nil] at this
  exact this
theorem blockBack_upto : Rows.BlockBackUptoSaid :=
  OpenClaim.holds_of_cond 5 Tryz.f5 rfl rfl rfl rfl rfl rfl rfl ⟨rfl, rfl, rfl, rfl, rfl⟩ rfl rfl rfl rfl rfl (by kernel_rfl) Tryz.func5 (by kernel_rfl)
    (of_decide_eq_true (by kernel_rfl)) (by unfold Func.isWrapper; first | (rw [if_pos (by decide +kernel)]; kernel_rfl) | (rw [if_neg (by decide +kernel)]; exact ⟨rfl, rfl⟩))
    (fun os started H enc _ F => zls os started H enc F)
end Go.Proofs.YthpnelbciibjeaaGreat
