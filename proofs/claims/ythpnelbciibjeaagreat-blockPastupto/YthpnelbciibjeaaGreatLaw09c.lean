/- The law BlockPast, from the contracts. -/
import Derived.Test.YthpnelbciibjeaaGreatBp2
import Derived.Test.YthpnelbciibjeaaGreatSpRdN
import Derived.Test.YthpnelbciibjeaaGreatSpBulk
import Derived.Test.YthpnelbciibjeaaGreatBase
set_option linter.all false
set_option maxRecDepth 100000
set_option linter.unusedSimpArgs false
set_option linter.unusedVariables false
namespace Go.Proofs.YthpnelbciibjeaaGreat
open Go.AW

section
variable {σ : List zc} {K : AV → List zc → Prop}
theorem c_eqBats {a b : List (List zf)} (ha0 : a.length ≤ 1073741824) (hb0 : b.length ≤ 1073741824) (ha : ∀ x ∈ a, zmB x) (hb : ∀ x ∈ b, zmB x) (hK : K (.d (.bool (decide (a = b)))) σ) :
    zt Tryz.prog zQ [.d (.slice (zfr a)), .d (.slice (zfr b)), .fn (.func ziD) [] []] σ K := by
  refine acE3 zbk fun hl => ?_
  have fin : ∀ z, decide (a = b) = z → K (.d (.bool z)) σ := fun z h => h ▸ hK
  clear hK
  have hal : (zfr a).length = a.length := List.length_map ..
  have hbl : (zfr b).length = b.length := List.length_map ..
  simp only [zar, iN, bT, bF, eN]
  cases hl0 : ((a.length : Int) != (b.length : Int))
  rotate_left
  · refine gq2 (zi hl0 (zi hal hbl)) ?_
    refine zbj hl ?_
    refine fin _ (decide_eq_false fun h => ?_)
    rw [h] at hl0; simp at hl0
  have hl2 : a.length = b.length := by simp at hl0; omega
  refine gq2 (zi hl0 (zi hal hbl)) ?_
  refine zN a.length (fun k vs s => vs = [.d (.int .i64 k)] ∧ (∃ T, s = σ ++ T) ∧ a.take k = b.take k) ⟨rfl, ⟨[], by simp⟩, by simp⟩ ?_
  rintro k vs s hk ⟨rfl, ⟨T, rfl⟩, htk⟩
  by_cases hlt : k < a.length
  · have hd : decide ((k : Int) < (a.length : Int)) = true := by simp; omega
    have hx : a[k]? = some a[k] := by simp [hlt]
    have hy : b[k]? = some (b[k]'(by omega)) := List.getElem?_eq_getElem _
    have hgx := zbr (f := fun b => [D.slice (zce b)]) hx
    have hgy := zbr (f := fun b => [D.slice (zce b)]) hy
    have hxs := ha _ (List.getElem_mem hlt)
    have hys := hb _ (List.getElem_mem (show k < b.length by omega))
    obtain ⟨x, hxe⟩ : ∃ x, a[k] = x := ⟨_, rfl⟩
    obtain ⟨y, hye⟩ : ∃ y, (b[k]'(by omega)) = y := ⟨_, rfl⟩
    rw [hxe] at hx hgx hxs
    rw [hye] at hy hgy hys
    obtain ⟨S, hS⟩ : ∃ S, σ ++ T = S := ⟨_, rfl⟩
    rw [hS]
    refine gq2 (zi hd (zi hgx hgy)) ?_
    refine c_rqSame (a := x) (b := y) hxs hys ?_
    cases he : decide (x = y)
    · refine gq2 hd ?_
      rw [← hS]
      refine zbj hl ?_
      refine fin _ (decide_eq_false fun h => ?_)
      subst h
      rw [hx] at hy
      have := Option.some.inj hy
      simp [this] at he
    · refine gq2 (wk1 k (by omega)) ?_
      exact zbJ.next hlt ⟨rfl, ⟨_, hS.symm⟩, zfW hx hy htk (by simpa using he)⟩
  · have hd : decide ((k : Int) < (a.length : Int)) = false := by simp; omega
    refine gq2 hd ?_
    refine zbj hl ?_
    refine fin _ (decide_eq_true ?_)
    rw [List.take_of_length_le (by omega), List.take_of_length_le (by omega)] at htk
    exact htk
end

theorem intsH (a b : zbZ) : zbW [AV.d (.int .i64 a.seq), AV.d (.int .i64 a.prev), AV.d (.int .i64 a.batch), AV.d (.int .i64 a.root), AV.d (.int .i64 a.state)] [AV.d (.int .i64 b.seq), AV.d (.int .i64 b.prev), AV.d (.int .i64 b.batch), AV.d (.int .i64 b.root), AV.d (.int .i64 b.state)] = some (decide (a = b)) := by
  have : decide (a = b) = ((a.seq == b.seq) && ((a.prev == b.prev) && ((a.batch == b.batch) && ((a.root == b.root) && (a.state == b.state))))) := by
    cases a; cases b
    rw [Bool.eq_iff_iff]
    simp
  rw [this]
  simp [zbW]
theorem arg_bats {n : Nat} (hn : n ≤ 1048576) {ds : List D} {m : Nat} (hf : zeP [.slice [.slice ziv]] ds) (hb : zdJ ds + m ≤ n) : ∃ l, ds = [.slice (zfr l)] ∧ l.length ≤ 1048576 ∧ ∀ b ∈ l, (∀ x ∈ b, zfc x.op ≤ 20971520) ∧ b.length ≤ 2097152 := by
  obtain ⟨d, rfl, h1⟩ := one_of hf
  obtain ⟨l, rfl⟩ := dec_open h1
  have h2 : zdZ (l.map fun b => [D.slice (zce b)]) ≤ 1048576 := by
    have : zdZ (openE l) ≤ 1048576 := by simp only [zdJ, zid] at hb; omega
    exact this
  have h4 := ziR (f := fun b => [D.slice (zce b)]) (fun a => by simp only [zdJ, zid]; omega) l
  refine ⟨l, rfl, by omega, fun b hbm => ?_⟩
  have h3 : zdJ [D.slice (zce b)] ≤ 1048576 := Nat.le_trans (zlr (f := fun b => [D.slice (zce b)]) hbm) h2
  have h5 : zdZ (zce b) ≤ 1048576 := by simp only [zdJ, zid] at h3; omega
  obtain ⟨h6, h7⟩ := batch_sz (b := b) (n := 1048576) h5 (by omega)
  have h8 := ziR (f := zbu) (fun a => by simp only [zbu, zdJ, zid]; omega) b
  refine ⟨h6, ?_⟩
  unfold zce at h5
  omega
theorem zeB {l : List (List zf)} {b : List zf} (h : b ∈ zja l) : b ∈ l ∧ zh b = 0 := by
  obtain ⟨h1, h2⟩ := List.mem_filter.1 h
  exact ⟨List.mem_of_mem_take h1, by simpa using h2⟩
theorem sound_len (l : List (List zf)) : (zja l).length ≤ 30 := Nat.le_trans (List.length_filter_le _ _) (by rw [List.length_take]; omega)
def zjg : List (Bool × List Ty) := [(false, [.slice [.slice ziv]]), (false, [.slice [.slice ziv]])]
theorem zpt (xs : List AV) (n : Nat) (hn : n ≤ 1048576) (h : ArgsOk zjg xs n) : zt Tryz.prog zfE xs [] fun r _ => r = .d (.bool true) := by
  obtain ⟨ds, xs1, m1, hf1, hb1, rfl, h⟩ := h
  obtain ⟨l, rfl, hl1, hl2⟩ := arg_bats hn hf1 hb1
  obtain ⟨ds, xs2, m2, hf, hb2, rfl, rfl⟩ := h
  obtain ⟨m, rfl, hm1, hm2⟩ := arg_bats (by omega) hf hb2
  show zt Tryz.prog zfE [.d (.slice (zfr l)), .d (.slice (zfr m))] [] _
  clear hb1 hb2 hf hf1
  obtain ⟨σ, hσ⟩ : ∃ σ : List zc, [] = σ := ⟨_, rfl⟩
  rw [hσ]
  refine zlO znl fun hl => ?_
  have fin : ∀ S, AW.Ends σ.length (fun r _ => r = .d (.bool true)) (some [.d (.bool true)]) S := fun S =>
    ends_take (by rw [← hσ]; rfl) (by simp [zgo, dmT, dm, dm1, zcE]) hl rfl
  have okl : ∀ b ∈ l, okB b := fun b hb => ⟨by have := (hl2 b hb).2; omega, fun s hs => sizes ((hl2 b hb).1 s hs)⟩
  have okm : ∀ b ∈ m, okB b := fun b hb => ⟨by have := (hm2 b hb).2; omega, fun s hs => sizes ((hm2 b hb).1 s hs)⟩
  simp only [zil, iN, bT, bF, eN]
  refine gq1 ?_
  refine c_live09 ?_
  refine gq1 ?_
  refine c_sound (by omega) okl ?_
  refine gq1 ?_
  refine c_sound (by omega) okm ?_
  have hxl : ∀ b ∈ zja l, zh b = 0 ∧ (∀ x ∈ b, zfc x.op ≤ 20971520) ∧ b.length ≤ 1073741824 := fun b hb => ⟨(zeB hb).2, (hl2 b (zeB hb).1).1, by have := (hl2 b (zeB hb).1).2; omega⟩
  have hxm : ∀ b ∈ zja m, zh b = 0 ∧ (∀ x ∈ b, zfc x.op ≤ 20971520) ∧ b.length ≤ 1073741824 := fun b hb => ⟨(zeB hb).2, (hm2 b (zeB hb).1).1, by have := (hm2 b (zeB hb).1).2; omega⟩
  have sml : ∀ b ∈ zja l, zmB b := fun b hb => smallB_of (okl b (zeB hb).1)
  have smm : ∀ b ∈ zja m, zmB b := fun b hb => smallB_of (okm b (zeB hb).1)
  have a30 := sound_len l; have b30 := sound_len m
  obtain ⟨a, ha⟩ : ∃ a, zja l = a := ⟨_, rfl⟩
  obtain ⟨b, hb⟩ : ∃ b, zja m = b := ⟨_, rfl⟩
  rw [ha] at hxl sml a30 ⊢
  rw [hb] at hxm smm b30 ⊢
  clear ha hb okl okm hl1 hl2 hm1 hm2
  have hal : (zfr a).length = a.length := List.length_map ..
  have hbl : (zfr b).length = b.length := List.length_map ..
  refine gq1 ?_
  refine zlp ?_
  have hT := zjQ σ [] []
  simp only [List.append_nil] at hT
  refine gq1 ?_
  refine c_runs (l := a) hT .nil a30 (by simp; omega) hxl fun S1 p L1 hT1 hI1 _ hn1 hR1 _ => ?_
  refine gq1 ?_
  refine c_runs (l := b) hT1 hI1 b30 (by simp at hn1; omega) hxm fun S2 q L2 hT2 hI2 hpre _ hR2 _ => ?_
  have hR1' := hR1.pre hpre
  have lp := hR1.len; have lq := hR2.len
  have hpl : (zpu p).length = a.length + 1 := by rw [← lp]; exact List.length_map ..
  have hql : (zpu q).length = b.length + 1 := by rw [← lq]; exact List.length_map ..
  have w1 : IntKind.i64.wrap ((a.length : Int) + 1) = ((a.length + 1 : Nat) : Int) := wkc _ (by omega)
  have w2 : IntKind.i64.wrap ((b.length : Int) + 1) = ((b.length + 1 : Nat) : Int) := wkc _ (by omega)
  refine gq31 (zi hpl (zi hql (zi hal (zi hbl (zi w1 w2))))) ?_
  refine zko (l := p) hT2 hI2 (by omega) ?_
  rw [hR1'.chain]
  refine gq31 (zi hpl (zi hql (zi hal (zi hbl (zi w1 w2))))) ?_
  refine zko (l := q) hT2 hI2 (by omega) ?_
  rw [hR2.chain]
  have hpe : p[a.length]? = some (p[a.length]'(by omega)) := List.getElem?_eq_getElem _
  have hqe : q[b.length]? = some (q[b.length]'(by omega)) := List.getElem?_eq_getElem _
  have hgp := zbr (f := hdrD) hpe
  have hgq := zbr (f := hdrD) hqe
  obtain ⟨x, hx⟩ : ∃ x, p[a.length]'(by omega) = x := ⟨_, rfl⟩
  obtain ⟨y, hy⟩ : ∃ y, q[b.length]'(by omega) = y := ⟨_, rfl⟩
  rw [hx] at hpe hgp
  rw [hy] at hqe hgq
  have w3 : IntKind.i64.wrap (((a.length + 1 : Nat) : Int) - 1) = (a.length : Int) := by rw [zaD (by omega) (by omega)]; omega
  have w4 : IntKind.i64.wrap (((b.length + 1 : Nat) : Int) - 1) = (b.length : Int) := by rw [zaD (by omega) (by omega)]; omega
  have hxy := intsH x y
  have hiff : decide (x = y) = decide (a = b) := by
    rw [Bool.eq_iff_iff, decide_eq_true_iff, decide_eq_true_iff]
    constructor
    · intro h
      exact hR1'.back hR2 (fun b hb => ⟨(hxl b hb).1, (hxl b hb).2.1⟩) (fun b hb => ⟨(hxm b hb).1, (hxm b hb).2.1⟩) (by rw [hpe, hqe, h])
    · intro h
      subst h
      have := hR1'.one hR2
      subst this
      rw [hpe] at hqe
      exact Option.some.inj hqe
  refine gq31 (zi hpl (zi hql (zi w3 (zi w4 (zi hgp (zi hgq hxy)))))) ?_
  refine c_eqBats (a := a) (b := b) (by omega) (by omega) sml smm ?_
  rw [hiff]
  refine gq4 ?_
  exact fin _
open Go.AW Go.ChangeShapes Go.WideShapes Go.ChangeAt Go.RowKit
theorem zmC {H : Type} {enc : TypeId × Value → H} {P : Program} {w : World} {sp : Nat → Bool} {held : Bool} {vs : List Value} {ds gs : List (DataW H)} {ps : List MemPlace} {ts : List TypeId} (hl : ts.length = 2)
    (h : DataW.TrodAll enc P w 0 sp held ts vs ds ps) (hg : gs = []) : (Rows.blockPastSpec).fn H (ds ++ gs) = { results := [.lit (.bool true)], args := ds } := by
  subst hg
  have hd : ds.length = 2 := by
    have : ∀ (ts : List TypeId) (vs : List Value) (ds : List (DataW H)) (ps : List MemPlace), DataW.TrodAll enc P w 0 sp held ts vs ds ps → ds.length = ts.length := by
      intro ts
      induction ts with
      | nil => intro vs ds ps h; cases vs <;> cases ds <;> simp [DataW.TrodAll] at h ⊢
      | cons t ts ih =>
        intro vs ds ps h
        obtain ⟨v, vs', d, ds', p, q, rfl, rfl, rfl, h1, h2⟩ := trodAll_cons h
        simp [ih vs' ds' q h2]
    rw [this ts vs ds ps h, hl]
  rw [List.append_nil]
  match ds, hd with
  | [_, _], _ => rfl
theorem zlV (os : Os) (started : os.Started) (H : Type) (enc : TypeId × Value → H) (F : Stop.Interp) :
    ReturnsInHanded {} Tryz.checked os 3 .any ((Rows.OpenSpec.upto Rows.blockPastSpec).pre6 enc Tryz.prog Tryz.f3 Rows.blockPastUptoRow.domain false) (((Rows.OpenSpec.upto Rows.blockPastSpec).at F).post enc Tryz.prog Tryz.f3 false true false false) := by
  refine returnsInHanded_of_cond (C := Tryz.checked) (s := Rows.OpenSpec.upto Rows.blockPastSpec) (k := Rows.uptoSmall) rfl own started (by kernel_rfl) Tryz.func3
    (OpenSpec.witness (enc := enc) (C := Tryz.checked) (s := Rows.OpenSpec.upto Rows.blockPastSpec) (k := Rows.uptoSmall) rfl false ⟨#[], #[(.slice none 0 0), (.slice none 0 0)], []⟩ 24 (by kernel_rfl) (by kernel_rfl) (by kernel_rfl)
      (x := ([.nil, .nil], [], [])) (by kernel_rfl) rfl (by kernel_rfl)) ?_
  intro W base args ds gs before hval hW _ hk _
  have hW0 : DataW.Whole enc Tryz.prog Tryz.f3.params.toList (Rows.blockPastSpec).vars false W args.toList ds gs before := hW
  have hg : gs = [] := by
    obtain ⟨p, q, hA, hV, _⟩ := hW0
    cases gs with
    | nil => rfl
    | cons => simp [Rows.blockPastSpec, DataW.TrodVars] at hV
  refine law_calls isBulk hval hW0 (pars := zjg) (by kernel_rfl) rfl (by obtain ⟨p, q, hA, _⟩ := hW0; exact zmC (by kernel_rfl) hA hg) laidOut mapsLaid slicesFull (by kernel_rfl) (tb := 4) (by kernel_rfl) (by kernel_rfl) fun xs has => zpt xs _ ?_ has
  have := small hk
  rw [hg, List.append_nil] at this
  exact this
theorem blockPast_upto : Rows.BlockPastUptoSaid :=
  OpenClaim.holds_of_cond 3 Tryz.f3 rfl rfl rfl rfl rfl rfl rfl ⟨rfl, rfl, rfl, rfl, rfl⟩ rfl rfl rfl rfl rfl (by kernel_rfl) Tryz.func3 (by kernel_rfl)
    (of_decide_eq_true (by kernel_rfl)) (by unfold Func.isWrapper; first | (rw [if_pos (by decide +kernel)]; kernel_rfl) | (rw [if_neg (by decide +kernel)]; exact ⟨rfl, rfl⟩))
    (fun os started H enc _ F => zlV os started H enc F)
end Go.Proofs.YthpnelbciibjeaaGreat
