/- Contracts: a header that the document fixes. -/
import Derived.Test.YthpnelbciibjeaaGreatBk2
import Derived.Test.YthpnelbciibjeaaGreatBk3
import Derived.Test.YthpnelbciibjeaaGreatSlc
import Derived.Test.YthpnelbciibjeaaGreatCl1
import Derived.Test.YthpnelbciibjeaaGreatBase
set_option linter.all false
set_option maxRecDepth 100000
set_option linter.unusedSimpArgs false
set_option linter.unusedVariables false
namespace Go.Proofs.YthpnelbciibjeaaGreat
open Go.AW

def lv9L : List (List UInt8) := (genF []).2.2
abbrev lv9H : zfs := ⟨0, 0, 0, 1, 2⟩
theorem lv9_gen : genF [] = (lv9H, 0, lv9L) := by
  have h1 : (genF []).1 = lv9H := by decide +kernel
  have h2 : (genF []).2.1 = 0 := by decide +kernel
  rw [← h1, ← h2]; rfl
theorem lv9_I : TabI lv9L := ⟨by decide +kernel, by decide +kernel, by decide +kernel⟩
def lv9X : ExecR := exec0 lv9L zdg lv9H []
theorem lv9_ok : ExOk lv9L zdg lv9H [] := ⟨by decide +kernel, by decide +kernel, by decide +kernel, by decide +kernel, by decide +kernel, by decide +kernel⟩
theorem lv9_h : lv9X.h.seq = 1 ∧ lv9X.h.state = 2 ∧ zdi lv9X.p = [] := ⟨by decide +kernel, by decide +kernel, rfl⟩
theorem lv9_J : TabI lv9X.L := ⟨by decide +kernel, by decide +kernel, by decide +kernel⟩
theorem lv9_chain : chainF lv9X.L [lv9H, lv9X.h] = true ∧ chainF lv9X.L [lv9X.h, lv9H] = false := ⟨by decide +kernel, by decide +kernel⟩
section

variable {σ : List zc} {K : AV → List zc → Prop}

theorem c_live09 (hK : K (.d (.bool true)) σ) : zo Tryz.prog zlo [] σ K := by
  refine acE0 e_l09_live fun hl => ?_
  simp only [zpc, iN, bT, bF, eN]
  refine gq1 ?_
  refine zlF ?_
  have hT0 := zke σ [] []
  have hp0 := zli σ [] lv9L []
  simp only [List.append_nil] at hT0 hp0
  refine gq1 ?_
  refine c_blGenesis hT0 .nil ?_
  rw [lv9_gen]
  rw [hp0]
  have hT1 := zke σ lv9L []
  simp only [List.append_nil] at hT1
  obtain ⟨S, hS⟩ : ∃ S, σ ++ zpg σ.length lv9L = S := ⟨_, rfl⟩
  have hl1 : S.length = σ.length + 3 := by rw [← hS]; simp
  have hpre : ∀ j x, σ[j]? = some x → S[j]? = some x := fun j x h => by rw [← hS]; exact zf h
  rw [hS] at hT1 ⊢
  refine gq1 ?_
  refine c_tpNew fun hP => ?_
  have el : ∀ X : zc, (S ++ [X]).length = S.length + 1 := fun X => by simp
  rw [el] at hP ⊢
  have xS : ∀ a τ, (S ++ a :: τ)[S.length]? = some a := fun a τ => zm ..
  have k5 : zbP [AV.d (.int .i64 0), AV.d (.int .i64 0), AV.d (.int .i64 0), AV.d (.int .i64 1), AV.d (.int .i64 2)] [AV.d (.int .i64 0), AV.d (.int .i64 0), AV.d (.int .i64 0), AV.d (.int .i64 1), AV.d (.int .i64 2)] = some true := by decide +kernel
  refine gq2 (zh (show ((0 : Int) != 0) = false from rfl) (zh k5 xS)) ?_
  rw [List.append_assoc] at hP
  obtain ⟨O, hO⟩ : ∃ O : Nat → Prop, (fun j => j = S.length + 1 + 1 ∨ j = S.length + 1) = O := ⟨_, rfl⟩
  have hOl : ∀ j, O j → S.length + 1 ≤ j := fun j hj => by rw [← hO] at hj; omega
  rw [hO] at hP
  have hLast : znU zdg.last := fun a ha => by
    have := List.eq_of_mem_replicate ha
    subst this
    simp
  refine c_blExecute (h := lv9H) (b := []) (hT1.app _) lv9_I hP .none hLast (fun h => by have := hOl _ h; omega) (fun h => by have := hOl _ h; omega) (fun h => by have := hOl _ h; omega) (by simp) (by simp) lv9_ok fun S2 O2 N hP2 hT2 _ hl2 hrest hN => ?_
  rw [show exec0 lv9L zdg lv9H [] = lv9X from rfl] at hT2 ⊢
  obtain rfl : N = [] := List.length_eq_zero_iff.1 hN
  have gS : S2[S.length]? = some (zmE lv9H) := hrest _ _ (zm ..) (by omega) (by omega) (by omega) (fun h => by have := hOl _ h; omega)
  have hpre2 : ∀ j x, σ[j]? = some x → S2[j]? = some x := fun j x h => by
    have := zr h
    exact hrest _ _ (zf (hpre j x h)) (by omega) (by omega) (by omega) (fun h => by have := hOl _ h; omega)
  obtain ⟨h1, h2, h3⟩ := lv9_h
  obtain ⟨h4, h5⟩ := lv9_chain
  have hJ := lv9_J
  rw [h3]
  obtain ⟨X, hX⟩ : ∃ X, lv9X.h = X := ⟨_, rfl⟩
  obtain ⟨LX, hLX⟩ : ∃ LX, lv9X.L = LX := ⟨_, rfl⟩
  rw [hX] at h1 h2 h4 h5 ⊢
  rw [hLX] at h4 h5 hT2 hJ
  have gS' : ∀ τ, (S2 ++ τ)[S.length]? = _ := fun τ => zf gS
  have xS2 : ∀ a τ, (S2 ++ a :: τ)[S2.length]? = some a := fun a τ => zm ..
  have q1 : (X.seq == 1) = true := by rw [h1]; rfl
  have q2 : (X.state == 2) = true := by rw [h2]; rfl
  refine gq29 (zh (show ((0 : Int) == 0) = true from rfl) (zh q1 (zh q2 (zh gS' (zh xS2 (show (((0 : Nat) : Int) == 0) = true from rfl)))))) ?_
  refine c_blChain (l := [lv9H, X]) (hT2.app _) hJ (by simp) ?_
  rw [h4]
  refine gq2 (zh gS' xS2) ?_
  refine c_blChain (l := [X, lv9H]) (hT2.app _) hJ (by simp) ?_
  rw [h5]
  refine gq1 ?_
  exact zlv (take_all fun j x h => zf (hpre2 j x h)) (by simp [zbM, dmT, dm, dm1, zbo]) hl hK
end


def tyH9 : List Ty := [.int .i64, .int .i64, .int .i64, .int .i64, .int .i64]
theorem dec_h9 {ds : List D} (h : zfc tyH9 ds) : ∃ x : zfs, ds = hdrD x := by
  obtain ⟨d1, ds, rfl, h1, h⟩ := zgE h
  obtain ⟨d2, ds, rfl, h2, h⟩ := zgE h
  obtain ⟨d3, ds, rfl, h3, h⟩ := zgE h
  obtain ⟨d4, ds, rfl, h4, h⟩ := zgE h
  obtain ⟨d5, ds, rfl, h5, h⟩ := zgE h
  obtain rfl := tfits_nil h
  obtain ⟨a1, rfl, k1⟩ := znA h1
  obtain ⟨a2, rfl, k2⟩ := znA h2
  obtain ⟨a3, rfl, k3⟩ := znA h3
  obtain ⟨a4, rfl, k4⟩ := znA h4
  obtain ⟨a5, rfl, k5⟩ := znA h5
  exact ⟨⟨a1, a2, a3, a4, a5⟩, rfl⟩
theorem ints5 (a b c d e : Int) : zbP [AV.d (.int .i64 a), AV.d (.int .i64 b), AV.d (.int .i64 c), AV.d (.int .i64 d), AV.d (.int .i64 e)] [AV.d (.int .i64 a), AV.d (.int .i64 b), AV.d (.int .i64 c), AV.d (.int .i64 d), AV.d (.int .i64 e)] = some true := by simp [zbP]
def zgI : List (Bool × List Ty) := [(true, tyH9), (false, [.slice [.int .u8]])]
theorem zmq (xs : List AV) (n : Nat) (hn : n ≤ 1048576) (h : ArgsOk zgI xs n) : zo Tryz.prog zdO xs [] fun r _ => r = .d (.bool true) := by
  obtain ⟨ds, xs1, m1, hf1, hb1, rfl, h⟩ := h
  obtain ⟨x, rfl⟩ := dec_h9 hf1
  obtain ⟨ds, xs2, m2, hf, hb2, rfl, rfl⟩ := h
  obtain ⟨d, rfl, h1⟩ := one_of hf
  obtain ⟨b, rfl⟩ := dec_bytes h1
  have hbl : b.length ≤ 1048576 := by simp only [ziy, zok, bulk_bcs] at hb2; omega
  show zo Tryz.prog zdO [znn x, .d (.slice (bcs b))] [] _
  clear hb1 hb2 hf h1 hf1
  obtain ⟨σ, hσ⟩ : ∃ σ : List zc, [] = σ := ⟨_, rfl⟩
  rw [hσ]
  refine zjy zky fun hl => ?_
  have fin : ∀ S, AW.Ends σ.length (fun r _ => r = .d (.bool true)) (some [.d (.bool true)]) S := fun S =>
    ends_take (by rw [← hσ]; rfl) (by simp [zbM, dmT, dm, dm1, zbo]) hl rfl
  simp only [zgq, iN, bT, bF, eN]
  refine gq1 ?_
  refine c_live09 ?_
  refine gq1 ?_
  refine znI (h := x) ?_
  refine gq1 ?_
  refine c_hrBytes (h := x) ?_
  refine gq1 ?_
  refine c_blParse (b := b) (by omega) ?_
  refine gq1 ?_
  refine c_hrParse (b := b) (by omega) ?_
  rw [hdrP_like true false]
  obtain ⟨P, hP⟩ : ∃ P, hdrP false b = P := ⟨_, rfl⟩
  rw [hP]
  refine gq1 ?_
  have el1 : ∀ A : zc, (σ ++ [A]).length = σ.length + 1 := fun A => by simp
  have el2 : ∀ A B : zc, (σ ++ [A, B]).length = σ.length + 2 := fun A B => by simp
  rw [el1, el2]
  obtain ⟨S, hS⟩ : ∃ S, σ ++ [zmE x, zmE P.1, zmE P.1] = S := ⟨_, rfl⟩
  have s0 : ∀ τ, (S ++ τ)[σ.length]? = some (zmE x) := fun τ => by rw [← hS]; exact zf (by rw [zm]; rfl)
  have s1 : ∀ τ, (S ++ τ)[σ.length + 1]? = some (zmE P.1) := fun τ => by rw [← hS]; exact zf (by rw [zp]; rfl)
  have s2 : ∀ τ, (S ++ τ)[σ.length + 2]? = some (zmE P.1) := fun τ => by rw [← hS]; exact zf (by rw [zp]; rfl)
  rw [hS]
  refine zlF ?_
  have hT := zke S [] []
  have hput := zli S [] (zgy [] x) []
  simp only [List.append_nil] at hT hput
  refine gq2 s0 ?_
  refine zoT (h := x) hT .nil ?_
  rw [hput]
  obtain ⟨R, hR⟩ : ∃ R, S ++ zpg S.length (zgy [] x) = R := ⟨_, rfl⟩
  have r0 : ∀ τ, (R ++ τ)[σ.length]? = some (zmE x) := fun τ => by rw [← hR, List.append_assoc]; exact s0 _
  have r1 : ∀ τ, (R ++ τ)[σ.length + 1]? = some (zmE P.1) := fun τ => by rw [← hR, List.append_assoc]; exact s1 _
  have r2 : ∀ τ, (R ++ τ)[σ.length + 2]? = some (zmE P.1) := fun τ => by rw [← hR, List.append_assoc]; exact s2 _
  rw [hR]
  refine gq2 r0 ?_
  refine zo.pre (xs' := [.box R.length 0, znn x]) (σ' := R ++ [rtO []]) ?_ ?_
  · refine .dataB R.length 0 [.exact []] (.exact []) [] (zm ..) rfl rfl ?_
    rw [zM]
    exact .refl _ _
  refine c_hrDigest (h := x) (zm ..) (by simp) ?_
  rw [zM]
  refine gq2 (zh r0 (zh r1 r2)) ?_
  refine zhA ?_
  rw [beq_self_eq_true]
  have k5 := ints5 P.1.seq P.1.prev P.1.batch P.1.root P.1.state
  refine gq29 (zh r0 (zh r1 (zh r2 k5))) ?_
  refine zkG (h := x) ?_
  refine gq2 r0 ?_
  refine c_hrCheck (h := x) ?_
  refine gq4 ?_
  exact fin _
open Go.AW Go.ChangeShapes Go.WideShapes Go.ChangeAt Go.RowKit
theorem zkh {H : Type} {enc : TypeId × Value → H} {P : Program} {w : World} {sp : Nat → Bool} {held : Bool} {vs : List Value} {ds gs : List (DataW H)} {ps : List MemPlace} {ts : List TypeId} (hl : ts.length = 2)
    (h : DataW.TrodAll enc P w 0 sp held ts vs ds ps) (hg : gs = []) : (Rows.blockHeadersSpec).fn H (ds ++ gs) = { results := [.lit (.bool true)], args := ds } := by
  subst hg
  have hd : ds.length = 2 := by
    have : ∀ (ts : List TypeId) (vs : List Value) (ds : List (DataW H)) (ps : List MemPlace), DataW.TrodAll enc P w 0 sp held ts vs ds ps → ds.length = ts.length := by
      intro ts
      induction ts with
      | nil => intro vs ds ps h; cases vs <;> cases ds <;> simp [DataW.TrodAll] at h ⊢
      | cons t ts ih =>
        intro vs ds ps h
        obtain ⟨v, vs', d, ds', p, q, rfl, rfl, rfl, h1, h2⟩ := trodAll_cons h
        simp [ih vs' ds' q h2]
    rw [this ts vs ds ps h, hl]
  rw [List.append_nil]
  match ds, hd with
  | [_, _], _ => rfl
theorem zjH (os : Os) (started : os.Started) (H : Type) (enc : TypeId × Value → H) (F : Stop.Interp) :
    ReturnsInHanded {} Tryz.checked os 4 .any ((Rows.OpenSpec.upto Rows.blockHeadersSpec).pre6 enc Tryz.prog Tryz.f4 Rows.blockHeadersUptoRow.domain false) (((Rows.OpenSpec.upto Rows.blockHeadersSpec).at F).post enc Tryz.prog Tryz.f4 false true false false) := by
  refine returnsInHanded_of_cond (C := Tryz.checked) (s := Rows.OpenSpec.upto Rows.blockHeadersSpec) (k := Rows.uptoSmall) rfl own started (by kernel_rfl) Tryz.func4
    (OpenSpec.witness (enc := enc) (C := Tryz.checked) (s := Rows.OpenSpec.upto Rows.blockHeadersSpec) (k := Rows.uptoSmall) rfl false ⟨#[], #[(.agg #[(.int .i64 0), (.int .i64 0), (.int .i64 0), (.int .i64 0), (.int .i64 0)]), (.slice none 0 0)], []⟩ 24 (by kernel_rfl) (by kernel_rfl) (by kernel_rfl)
      (x := ([(.agg [(.lit (.int .i64 0)), (.lit (.int .i64 0)), (.lit (.int .i64 0)), (.lit (.int .i64 0)), (.lit (.int .i64 0))]), .nil], [], [])) (by kernel_rfl) rfl (by kernel_rfl)) ?_
  intro W base args ds gs before hval hW _ hk _
  have hW0 : DataW.Whole enc Tryz.prog Tryz.f4.params.toList (Rows.blockHeadersSpec).vars false W args.toList ds gs before := hW
  have hg : gs = [] := by
    obtain ⟨p, q, hA, hV, _⟩ := hW0
    cases gs with
    | nil => rfl
    | cons => simp [Rows.blockHeadersSpec, DataW.TrodVars] at hV
  refine law_calls isBulk hval hW0 (pars := zgI) (by kernel_rfl) rfl (by obtain ⟨p, q, hA, _⟩ := hW0; exact zkh (by kernel_rfl) hA hg) laidOut mapsLaid slicesFull (by kernel_rfl) (tb := 4) (by kernel_rfl) (by kernel_rfl) fun xs has => zmq xs _ ?_ has
  have := small hk
  rw [hg, List.append_nil] at this
  exact this
theorem blockHeaders_upto : Rows.BlockHeadersUptoSaid :=
  OpenClaim.holds_of_cond 4 Tryz.f4 rfl rfl rfl rfl rfl rfl rfl ⟨rfl, rfl, rfl, rfl, rfl⟩ rfl rfl rfl rfl rfl (by kernel_rfl) Tryz.func4 (by kernel_rfl)
    (of_decide_eq_true (by kernel_rfl)) (by unfold Func.isWrapper; first | (rw [if_pos (by decide +kernel)]; kernel_rfl) | (rw [if_neg (by decide +kernel)]; exact ⟨rfl, rfl⟩))
    (fun os started H enc _ F => zjH os started H enc F)
end Go.Proofs.YthpnelbciibjeaaGreat
