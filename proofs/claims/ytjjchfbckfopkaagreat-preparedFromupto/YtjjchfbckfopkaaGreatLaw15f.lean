/- The law PreparedFrom, from the contracts. -/
import Derived.Test.YtjjchfbckfopkaaGreatHe4
import Derived.Test.YtjjchfbckfopkaaGreatBg3
import Derived.Test.YtjjchfbckfopkaaGreatSpBulk
import Derived.Test.YtjjchfbckfopkaaGreatSpNum
import Derived.Test.YtjjchfbckfopkaaGreatBase
set_option linter.all false
set_option maxRecDepth 100000
set_option linter.unusedSimpArgs false
set_option linter.unusedVariables false
namespace Go.Proofs.YtjjchfbckfopkaaGreat
open Go.AW

theorem zki {p : zar} (h : zcv (zeU p) ≤ 1048576) : zeL p := by
  have h5 := leP_bulk h
  simp only [zeU, zcv, zfA] at h
  obtain ⟨h6, h7⟩ := batch_sz (b := p.batch) (n := 1048576) (by omega) (by omega)
  exact ⟨h6, by omega, by have := h5.1; omega⟩
theorem zof : ∀ l : List zar, l.length * 7 ≤ zcD (l.map zeU)
  | [] => Nat.zero_le _
  | a :: l => by
    have := zof l
    simp only [List.map_cons, List.length_cons, zcD, zeU, zcv, zfA]; omega
theorem arg_preps {n : Nat} (hn : n ≤ 1048576) {ds : List D} {m : Nat} (hf : zcX [.slice tyPrep] ds) (hb : zcv ds + m ≤ n) : ∃ l, ds = [.slice (zcL l)] ∧ l.length ≤ 1000000 ∧ ∀ x ∈ l, zeL x := by
  obtain ⟨d, rfl, h1⟩ := one_of hf
  obtain ⟨l, rfl, hR⟩ := dec_sliceR h1 fun e he => zpI he
  have h2 : zcD (l.map zeU) ≤ 1048576 := by simp only [zcv, zfA] at hb; omega
  have h4 := zof l
  refine ⟨l, rfl, by omega, fun p hp => zki (Nat.le_trans (zgk (f := zeU) hp) h2)⟩
def zga : List (Bool × List Ty) := [(false, [.slice tyPrep]), (true, tyPrep), (true, tyPrep)]
theorem zlK (xs : List AV) (n : Nat) (hn : n ≤ 1048576) (h : ArgsOk zga xs n) : zp Tryz.prog zdA xs [] fun r _ => r = .d (.bool true) := by
  obtain ⟨ds, xs1, m1, hf1, hb1, rfl, h⟩ := h
  obtain ⟨l, rfl, hl1, hl2⟩ := arg_preps hn hf1 hb1
  obtain ⟨ds, xs2, m2, hf2, hb2, rfl, h⟩ := h
  obtain ⟨a, rfl, _⟩ := zpI hf2
  obtain ⟨ds, xs3, m3, hf3, hb3, rfl, rfl⟩ := h
  obtain ⟨b, rfl, _⟩ := zpI hf3
  have ha := zki (p := a) (by omega)
  have hb := zki (p := b) (by omega)
  show zp Tryz.prog zdA [.d (.slice (zcL l)), zfd a, zfd b] [] _
  clear hb1 hb2 hb3 hf1 hf2 hf3
  obtain ⟨σ, hσ⟩ : ∃ σ : List zb, [] = σ := ⟨_, rfl⟩
  rw [hσ]
  refine acE3 zjJ fun hl => ?_
  simp only [zfM, iN, bT, bF, eN]
  refine gq1 ?_
  refine c_live15 ?_
  have el : ∀ X : zb, (σ ++ [X]).length = σ.length + 1 := fun X => by simp
  rw [el]
  obtain ⟨S0, hS0⟩ : ∃ S0, σ ++ [zb.box [.d (.int .i64 a.view), .d (.int .i64 a.seq), .d (.int .i64 a.dig), .d (.int .i64 a.fkey), .d (.int .i64 a.fdig), .d (.slice (zax a.signs)), .d (.slice (zaE a.batch))], .box [.d (.int .i64 b.view), .d (.int .i64 b.seq), .d (.int .i64 b.dig), .d (.int .i64 b.fkey), .d (.int .i64 b.fdig), .d (.slice (zax b.signs)), .d (.slice (zaE b.batch))]] = S0 := ⟨_, rfl⟩
  have a0 : S0[σ.length]? = some (.box [.d (.int .i64 a.view), .d (.int .i64 a.seq), .d (.int .i64 a.dig), .d (.int .i64 a.fkey), .d (.int .i64 a.fdig), .d (.slice (zax a.signs)), .d (.slice (zaE a.batch))]) := by rw [← hS0, zm]; rfl
  have b0 : S0[σ.length + 1]? = some (.box [.d (.int .i64 b.view), .d (.int .i64 b.seq), .d (.int .i64 b.dig), .d (.int .i64 b.fkey), .d (.int .i64 b.fdig), .d (.slice (zax b.signs)), .d (.slice (zaE b.batch))]) := by rw [← hS0, zh]; rfl
  have fin : ∀ S, AW.Ends σ.length (fun r _ => r = .d (.bool true)) (some [.d (.bool true)]) S := fun S =>
    zoy (by rw [← hσ]; rfl) (by simp [zfT, dmT, dm, dm1, zcf]) hl rfl
  rw [hS0]
  refine gq1 ?_
  have hbb : ∀ x : Bool, (x != x) = false := fun x => by cases x <;> rfl
  refine c_heFrom hl1 hl2 (fun hr S hpre => ?_) fun hr S hH hpre => ?_
  · have a1 : ∀ τ, (S ++ τ)[σ.length]? = _ := fun τ => zk (hpre _ _ a0)
    have b1 : ∀ τ, (S ++ τ)[σ.length + 1]? = _ := fun τ => zk (hpre _ _ b0)
    have a1' := hpre _ _ a0; have b1' := hpre _ _ b0
    refine gq1 ?_
    refine c_frFrom hl1 (fun _ => ?_) fun h => by rw [hr] at h; cases h
    refine gq40 (zi a1' (zi b1' (zi (show ((1 : Int) != 1) = false from rfl) (zi (show ((1 : Int) == 0) = false from rfl) (zi (show (false == false) = true from rfl) (show (true == true) = true from rfl)))))) ?_
    refine zmh (a := a) (b := b) ha hb ?_
    refine gq40 (zi a1' (zi b1' (zi (show (false == false) = true from rfl) (show (true == true) = true from rfl)))) ?_
    refine zno (a := a) (b := b) ha hb ?_
    refine gq40 (zi a1' (zi b1' (zi (show (false == false) = true from rfl) (show (true == true) = true from rfl)))) ?_
    refine zmh (a := a) (b := a) ha ha ?_
    rw [decide_eq_true rfl]
    refine gq40 (zi (show ((1 : Int) != 0) = true from rfl) (zi (show (false == false) = true from rfl) (show (true == true) = true from rfl))) ?_
    exact fin _
  · have hq := rises_rel hr
    have hrel := keyed_rel hq.2 hl2
    refine gq1 ?_
    refine c_frFrom hl1 (fun h => by rw [hr] at h; cases h) fun _ X => ?_
    obtain ⟨T, hT⟩ : ∃ T, S ++ X :: [docO l] = T := ⟨_, rfl⟩
    have a1' : T[σ.length]? = some (.box [.d (.int .i64 a.view), .d (.int .i64 a.seq), .d (.int .i64 a.dig), .d (.int .i64 a.fkey), .d (.int .i64 a.fdig), .d (.slice (zax a.signs)), .d (.slice (zaE a.batch))]) := by rw [← hT]; exact zk (hpre _ _ a0)
    have b1' : T[σ.length + 1]? = some (.box [.d (.int .i64 b.view), .d (.int .i64 b.seq), .d (.int .i64 b.dig), .d (.int .i64 b.fkey), .d (.int .i64 b.fdig), .d (.slice (zax b.signs)), .d (.slice (zaE b.batch))]) := by rw [← hT]; exact zk (hpre _ _ b0)
    have hH' : zhe T (S0.length + 1) S0.length (zkD l) := by rw [← hT]; exact hH.app _
    have hd' : T[S.length + 1]? = some (docO l) := by rw [← hT, zh]; rfl
    rw [hT]
    refine gq40 (zi a1' (zi b1' (zi (show ((0 : Int) != 0) = false from rfl) (zi (show ((0 : Int) == 0) = true from rfl) (zi (show (false == false) = true from rfl) (show (true == true) = true from rfl)))))) ?_
    refine zmh (a := a) (b := b) ha hb ?_
    refine gq40 (zi a1' (zi b1' (zi (show (false == false) = true from rfl) (show (true == true) = true from rfl)))) ?_
    refine zno (a := a) (b := b) ha hb ?_
    refine gq40 (zi a1' (zi b1' (zi (show (false == false) = true from rfl) (show (true == true) = true from rfl)))) ?_
    refine zmh (a := a) (b := a) ha ha ?_
    rw [decide_eq_true rfl]
    refine gq40 (zi (show ((0 : Int) != 0) = false from rfl) (zi (show (false == false) = true from rfl) (zi (show (true == true) = true from rfl) hd'))) ?_
    refine c_all hH' hrel hl1 ?_
    refine gq40 (zi hd' (zi (show (false == false) = true from rfl) (show (true == true) = true from rfl))) ?_
    refine c_sameAll hl1 hl1 hl2 hl2 ?_
    rw [decide_eq_true rfl]
    refine gq1 ?_
    exact fin _
open Go.AW Go.ChangeShapes Go.WideShapes Go.ChangeAt Go.RowKit
theorem zjp {H : Type} {enc : TypeId × Value → H} {P : Program} {w : World} {sp : Nat → Bool} {held : Bool} {vs : List Value} {ds gs : List (DataW H)} {ps : List MemPlace} {ts : List TypeId} (hl : ts.length = 3)
    (h : DataW.TrodAll enc P w 0 sp held ts vs ds ps) (hg : gs = []) : (Rows.preparedFromSpec).fn H (ds ++ gs) = { results := [.lit (.bool true)], args := ds } := by
  subst hg
  have hd : ds.length = 3 := by
    have : ∀ (ts : List TypeId) (vs : List Value) (ds : List (DataW H)) (ps : List MemPlace), DataW.TrodAll enc P w 0 sp held ts vs ds ps → ds.length = ts.length := by
      intro ts
      induction ts with
      | nil => intro vs ds ps h; cases vs <;> cases ds <;> simp [DataW.TrodAll] at h ⊢
      | cons t ts ih =>
        intro vs ds ps h
        obtain ⟨v, vs', d, ds', p, q, rfl, rfl, rfl, h1, h2⟩ := trodAll_cons h
        simp [ih vs' ds' q h2]
    rw [this ts vs ds ps h, hl]
  rw [List.append_nil]
  match ds, hd with
  | [_, _, _], _ => rfl
theorem ziR (os : Os) (started : os.Started) (H : Type) (enc : TypeId × Value → H) (F : Stop.Interp) :
    ReturnsInHanded {} Tryz.checked os 4 .any ((Rows.OpenSpec.upto Rows.preparedFromSpec).pre6 enc Tryz.prog Tryz.f4 Rows.preparedFromUptoRow.domain false) (((Rows.OpenSpec.upto Rows.preparedFromSpec).at F).post enc Tryz.prog Tryz.f4 false true false false) := by
  refine returnsInHanded_of_cond (C := Tryz.checked) (s := Rows.OpenSpec.upto Rows.preparedFromSpec) (k := Rows.uptoSmall) rfl own started (by kernel_rfl) Tryz.func4
    (OpenSpec.witness (enc := enc) (C := Tryz.checked) (s := Rows.OpenSpec.upto Rows.preparedFromSpec) (k := Rows.uptoSmall) rfl false ⟨#[], #[(.slice none 0 0), (.agg #[(.int .i64 0), (.int .i64 0), (.int .i64 0), (.int .i64 0), (.int .i64 0), (.slice none 0 0), (.slice none 0 0)]), (.agg #[(.int .i64 0), (.int .i64 0), (.int .i64 0), (.int .i64 0), (.int .i64 0), (.slice none 0 0), (.slice none 0 0)])], []⟩ 24 (by kernel_rfl) (by kernel_rfl) (by kernel_rfl)
      (x := ([.nil, (.agg [(.lit (.int .i64 0)), (.lit (.int .i64 0)), (.lit (.int .i64 0)), (.agg [(.lit (.int .i64 0)), (.lit (.int .i64 0))]), .nil, .nil]), (.agg [(.lit (.int .i64 0)), (.lit (.int .i64 0)), (.lit (.int .i64 0)), (.agg [(.lit (.int .i64 0)), (.lit (.int .i64 0))]), .nil, .nil])], [], [])) (by kernel_rfl) rfl (by kernel_rfl)) ?_
  intro W base args ds gs before hval hW _ hk _
  have hW0 : DataW.Whole enc Tryz.prog Tryz.f4.params.toList (Rows.preparedFromSpec).vars false W args.toList ds gs before := hW
  have hg : gs = [] := by
    obtain ⟨p, q, hA, hV, _⟩ := hW0
    cases gs with
    | nil => rfl
    | cons => simp [Rows.preparedFromSpec, DataW.TrodVars] at hV
  refine law_calls isBulk hval hW0 (pars := zga) (by kernel_rfl) rfl (by obtain ⟨p, q, hA, _⟩ := hW0; exact zjp (by kernel_rfl) hA hg) laidOut mapsLaid slicesFull (by kernel_rfl) (tb := 4) (by kernel_rfl) (by kernel_rfl) fun xs has => zlK xs _ ?_ has
  have := small hk
  rw [hg, List.append_nil] at this
  exact this
theorem preparedFrom_upto : Rows.PreparedFromUptoSaid :=
  OpenClaim.holds_of_cond 4 Tryz.f4 rfl rfl rfl rfl rfl rfl rfl ⟨rfl, rfl, rfl, rfl, rfl⟩ rfl rfl rfl rfl rfl (by kernel_rfl) Tryz.func4 (by kernel_rfl)
    (of_decide_eq_true (by kernel_rfl)) (by unfold Func.isWrapper; first | (rw [if_pos (by decide +kernel)]; kernel_rfl) | (rw [if_neg (by decide +kernel)]; exact ⟨rfl, rfl⟩))
    (fun os started H enc _ F => ziR os started H enc F)
end Go.Proofs.YtjjchfbckfopkaaGreat
