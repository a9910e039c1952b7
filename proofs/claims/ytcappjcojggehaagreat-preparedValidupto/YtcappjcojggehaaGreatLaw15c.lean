/- A case of chapter 15, out of its data. No program in sight. -/
import Derived.Test.YtcappjcojggehaaGreatBg3
import Derived.Test.YtcappjcojggehaaGreatSpNum
import Derived.Test.YtcappjcojggehaaGreatSpBulk
set_option linter.all false
set_option linter.unusedSimpArgs false
set_option linter.unusedVariables false
namespace Go.Proofs.YtcappjcojggehaaGreat
open Go.AW

def specR (p : zmz) : Prop := zmW p.view ∧ zmW p.seq ∧ zmW p.dig ∧ p.batch < 256 ∧ p.first < 256
def voteR (v : zln) : Prop := zmW v.key ∧ zmW v.kind ∧ zmW v.view ∧ zmW v.seq ∧ v.batch < 256
def tyVote : List Ty := [.int .i64, .int .i64, .int .i64, .int .i64, .int .u8]
def tySpec : List Ty := [.int .i64, .int .i64, .int .u8, .int .i64, .int .u8, .slice [.int .u8]]
def tyCase : List Ty := [.int .i64, .slice [.slice tyReq], .slice tyVote, .slice tySpec, .int .i64, .int .i64]
theorem dec_vote {ds : List D} (h : zcZ tyVote ds) : ∃ v : zln, ds = zjU v ∧ voteR v := by
  obtain ⟨d1, ds, rfl, h1, h⟩ := zav h
  obtain ⟨d2, ds, rfl, h2, h⟩ := zav h
  obtain ⟨d3, ds, rfl, h3, h⟩ := zav h
  obtain ⟨d4, ds, rfl, h4, h⟩ := zav h
  obtain ⟨d5, ds, rfl, h5, h⟩ := zav h
  obtain rfl := zjb h
  obtain ⟨a1, rfl, k1⟩ := zdw h1
  obtain ⟨a2, rfl, k2⟩ := zdw h2
  obtain ⟨a3, rfl, k3⟩ := zdw h3
  obtain ⟨a4, rfl, k4⟩ := zdw h4
  obtain ⟨a5, rfl⟩ := dec_u8 h5
  exact ⟨⟨a1, a2, a3, a4, a5.toNat⟩, rfl, k1, k2, k3, k4, a5.toNat_lt⟩
theorem dec_spec {ds : List D} (h : zcZ tySpec ds) : ∃ p : zmz, ds = zjY p ∧ specR p := by
  obtain ⟨d1, ds, rfl, h1, h⟩ := zav h
  obtain ⟨d2, ds, rfl, h2, h⟩ := zav h
  obtain ⟨d3, ds, rfl, h3, h⟩ := zav h
  obtain ⟨d4, ds, rfl, h4, h⟩ := zav h
  obtain ⟨d5, ds, rfl, h5, h⟩ := zav h
  obtain ⟨d6, ds, rfl, h6, h⟩ := zav h
  obtain rfl := zjb h
  obtain ⟨a1, rfl, k1⟩ := zdw h1
  obtain ⟨a2, rfl, k2⟩ := zdw h2
  obtain ⟨a3, rfl⟩ := dec_u8 h3
  obtain ⟨a4, rfl, k4⟩ := zdw h4
  obtain ⟨a5, rfl⟩ := dec_u8 h5
  obtain ⟨a6, rfl⟩ := dec_bytes h6
  exact ⟨⟨a1, a2, a3.toNat, a4, a5.toNat, a6⟩, rfl, k1, k2, k4, a3.toNat_lt, a5.toNat_lt⟩
structure TCase where
  f : Int
  bats : List (List zf)
  votes : List zln
  specs : List zmz
  view : Int
  low : Int
abbrev reqsD (l : List zf) : List D := [.slice (zho l)]
def caseD (c : TCase) : List D := [.int .i64 c.f, .slice (c.bats.map fun l => [.slice (zho l)]), .slice (c.votes.map zjU), .slice (c.specs.map zjY), .int .i64 c.view, .int .i64 c.low]
structure okC (c : TCase) : Prop where
  f : zmW c.f
  view : zmW c.view
  low : zmW c.low
  ops : ∀ l ∈ c.bats, ∀ x ∈ l, zfi x.op ≤ 20971520
  bl : c.bats.length ≤ 1073741824
  br : ∀ l ∈ c.bats, l.length ≤ 1073741824
  sum : (c.bats.map List.length).sum + c.votes.length ≤ 536870912
  votes : ∀ v ∈ c.votes, voteR v
  specs : ∀ p ∈ c.specs, specR p ∧ p.signs.length ≤ 1073741824
  sl : c.specs.length ≤ 1048576
theorem zjZ (l : List zf) : zdy (zho l) ≤ zcF (reqsD l) := by simp only [reqsD, zcF, zge]; omega
theorem specD_bulk (p : zmz) : p.signs.length ≤ zcF (zjY p) := by simp only [zjY, zcF, zge, bulk_bcs]; omega
theorem sum_bulk (bats : List (List zf)) : (bats.map List.length).sum ≤ zdy (bats.map reqsD) := by
  induction bats with
  | nil => simp
  | cons l bats ih =>
    have := zez (f := reqD) (fun a => by simp only [reqD, zcF, zge]; omega) l
    have e := zjZ l
    unfold zho at e
    simp only [List.map_cons, List.sum_cons, zdy] at ih ⊢
    omega
theorem dec_case {ds : List D} (h : zcZ tyCase ds) (hb : zcF ds ≤ 1048576) : ∃ c, ds = caseD c ∧ okC c := by
  obtain ⟨d1, ds, rfl, h1, h⟩ := zav h
  obtain ⟨d2, ds, rfl, h2, h⟩ := zav h
  obtain ⟨d3, ds, rfl, h3, h⟩ := zav h
  obtain ⟨d4, ds, rfl, h4, h⟩ := zav h
  obtain ⟨d5, ds, rfl, h5, h⟩ := zav h
  obtain ⟨d6, ds, rfl, h6, h⟩ := zav h
  obtain rfl := zjb h
  obtain ⟨f, rfl, k1⟩ := zdw h1
  obtain ⟨bats, rfl⟩ := zmm (f := reqsD) h2 fun e he => by
    obtain ⟨d, rfl, h1⟩ := one_of he
    obtain ⟨b, rfl, _⟩ := dec_reqs h1
    exact ⟨b, rfl⟩
  obtain ⟨votes, rfl, k3⟩ := zku h3 fun e he => dec_vote he
  obtain ⟨specs, rfl, k4⟩ := zku h4 fun e he => dec_spec he
  obtain ⟨view, rfl, k5⟩ := zdw h5
  obtain ⟨low, rfl, k6⟩ := zdw h6
  simp only [zcF, zge] at hb
  have b1 := sum_bulk bats
  have b2 := zez (f := reqsD) (fun a => by simp only [reqsD, zcF, zge]; omega) bats
  have b3 := zez (f := zjU) (fun a => by simp only [zjU, zcF, zge]; omega) votes
  have b4 := zez (f := zjY) (fun a => by simp only [zjY, zcF, zge]; omega) specs
  refine ⟨⟨f, bats, votes, specs, view, low⟩, rfl, k1, k5, k6, fun l hl => ?_, ?_, fun l hl => ?_, ?_, k3, fun p hp => ⟨k4 p hp, ?_⟩, ?_⟩
  · have := zgd (l := bats) (f := reqsD) hl
    have e := zjZ l
    exact (reqs_sz (b := l) (n := 1048576) (by omega) (by omega)).1
  · simp only; omega
  · have := zgd (l := bats) (f := reqsD) hl
    have e := zjZ l
    have := (reqs_sz (b := l) (n := 1048576) (by omega) (by omega)).2
    omega
  · simp only; omega
  · have := zgd (l := specs) (f := zjY) hp
    have e := specD_bulk p
    omega
  · simp only; omega
end Go.Proofs.YtcappjcojggehaaGreat
