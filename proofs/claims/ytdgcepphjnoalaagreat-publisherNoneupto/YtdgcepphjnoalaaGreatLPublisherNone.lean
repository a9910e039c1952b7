/- PublisherNone: for every input of bulk at most 1048576 the law answers true and leaves its arguments as they were. No condition beside the given row's. -/
import Derived.Test.YtdgcepphjnoalaaGreatBase
import Derived.Test.YtdgcepphjnoalaaGreatAwLoop
import Derived.Test.YtdgcepphjnoalaaGreatLaw24n
set_option linter.all false
set_option maxRecDepth 100000
namespace Go.Proofs.YtdgcepphjnoalaaGreat
open Go.AW Go.ChangeShapes Go.WideShapes Go.ChangeAt Go.RowKit
theorem zky {H : Type} {enc : TypeId × Value → H} {P : Program} {w : World} {sp : Nat → Bool} {held : Bool} {vs : List Value} {ds gs : List (DataW H)} {ps : List MemPlace} {ts : List TypeId} (hl : ts.length = 1)
    (h : DataW.TrodAll enc P w 0 sp held ts vs ds ps) (hg : gs = []) : (Rows.publisherNoneSpec).fn H (ds ++ gs) = { results := [.lit (.bool true)], args := ds } := by
  subst hg
  have hd : ds.length = 1 := by
    have : ∀ (ts : List TypeId) (vs : List Value) (ds : List (DataW H)) (ps : List MemPlace), DataW.TrodAll enc P w 0 sp held ts vs ds ps → ds.length = ts.length := by
      intro ts
      induction ts with
      | nil => intro vs ds ps h; cases vs <;> cases ds <;> simp [DataW.TrodAll] at h ⊢
      | cons t ts ih =>
        intro vs ds ps h
        obtain ⟨v, vs', d, ds', p, q, rfl, rfl, rfl, h1, h2⟩ := trodAll_cons h
        simp [ih vs' ds' q h2]
    rw [this ts vs ds ps h, hl]
  rw [List.append_nil]
  match ds, hd with
  | [_], _ => rfl
theorem zjX (os : Os) (started : os.Started) (H : Type) (enc : TypeId × Value → H) (F : Stop.Interp) :
    ReturnsInHanded {} Tryz.checked os 6 .any ((Rows.OpenSpec.upto Rows.publisherNoneSpec).pre6 enc Tryz.prog Tryz.f6 Rows.publisherNoneUptoRow.domain false) (((Rows.OpenSpec.upto Rows.publisherNoneSpec).at F).post enc Tryz.prog Tryz.f6 false true false false) := by
  refine returnsInHanded_of_cond (C := Tryz.checked) (s := Rows.OpenSpec.upto Rows.publisherNoneSpec) (k := Rows.uptoSmall) rfl own started (by kernel_rfl) Tryz.func6
    (OpenSpec.witness (enc := enc) (C := Tryz.checked) (s := Rows.OpenSpec.upto Rows.publisherNoneSpec) (k := Rows.uptoSmall) rfl false ⟨#[], #[(.agg #[(.int .i64 0), (.int .i64 0), (.string .empty), (.string .empty), (.int .i64 0), (.slice none 0 0), (.int .i64 0), (.int .i64 0), (.int .i64 0), (.int .i64 0), (.int .i64 0), (.int .i64 0), (.int .i64 0), (.int .i64 0), (.int .i64 0), (.int .i64 0), (.slice none 0 0), (.int .i64 0), (.int .i64 0), (.slice none 0 0), (.slice none 0 0), (.slice none 0 0), (.slice none 0 0), (.string .empty), (.int .i64 0), (.string .empty), (.int .i64 0), (.slice none 0 0), (.slice none 0 0), (.int .i64 0), (.int .i64 0), (.slice none 0 0), (.int .i64 0), (.int .i64 0), (.slice none 0 0), (.int .i64 0), (.int .i64 0), (.bool false)])], []⟩ 24 (by kernel_rfl) (by kernel_rfl) (by kernel_rfl)
      (x := ([(.agg [(.lit (.int .i64 0)), (.agg [(.lit (.int .i64 0)), (.lit (.string [])), (.lit (.string [])), (.lit (.int .i64 0)), .nil]), (.lit (.int .i64 0)), (.agg [(.lit (.int .i64 0)), (.lit (.int .i64 0)), (.lit (.int .i64 0)), (.lit (.int .i64 0)), (.lit (.int .i64 0)), (.lit (.int .i64 0)), (.lit (.int .i64 0)), (.agg [(.lit (.int .i64 0)), (.lit (.int .i64 0))]), .nil, (.agg [(.lit (.int .i64 0)), (.lit (.int .i64 0)), .nil]), .nil, .nil, .nil, (.lit (.string [])), (.lit (.int .i64 0)), (.agg [(.lit (.string [])), (.lit (.int .i64 0)), .nil, .nil, (.lit (.int .i64 0)), (.lit (.int .i64 0)), .nil, (.agg [(.lit (.int .i64 0)), (.lit (.int .i64 0)), .nil])]), (.agg [(.lit (.int .i64 0)), (.lit (.int .i64 0))])]), (.lit (.bool false))])], [], [])) (by kernel_rfl) rfl (by kernel_rfl)) ?_
  intro W base args ds gs before hval hW _ hk _
  have hW0 : DataW.Whole enc Tryz.prog Tryz.f6.params.toList (Rows.publisherNoneSpec).vars false W args.toList ds gs before := hW
  have hg : gs = [] := by
    obtain ⟨p, q, hA, hV, _⟩ := hW0
    cases gs with
    | nil => rfl
    | cons => simp [Rows.publisherNoneSpec, DataW.TrodVars] at hV
  refine law_calls isBulk hval hW0 (pars := zgW) (by kernel_rfl) rfl (by obtain ⟨p, q, hA, _⟩ := hW0; exact zky (by kernel_rfl) hA hg) laidOut mapsLaid slicesFull (by kernel_rfl) (tb := 4) (by kernel_rfl) (by kernel_rfl) fun xs has => zmk xs _ ?_ has
  have := small hk
  rw [hg, List.append_nil] at this
  exact this
theorem publisherNone_upto : Rows.PublisherNoneUptoSaid :=
  OpenClaim.holds_of_cond 6 Tryz.f6 rfl rfl rfl rfl rfl rfl rfl ⟨rfl, rfl, rfl, rfl, rfl⟩ rfl rfl rfl rfl rfl (by kernel_rfl) Tryz.func6 (by unfold joinedFacts; rw [any_loops, any_loops] <;> kernel_rfl)
    (of_decide_eq_true (by kernel_rfl)) (by unfold Func.isWrapper; first | (rw [if_pos (by decide +kernel)]; kernel_rfl) | (rw [if_neg (by decide +kernel)]; exact ⟨rfl, rfl⟩))
    (fun os started H enc _ F => zjX os started H enc F)
end Go.Proofs.YtdgcepphjnoalaaGreat
