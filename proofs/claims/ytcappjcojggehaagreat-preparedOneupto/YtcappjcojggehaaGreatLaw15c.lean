/- A case of chapter 15, out of its data. No program in sight. -/
import Derived.Test.YtcappjcojggehaaGreatBg3
import Derived.Test.YtcappjcojggehaaGreatSpNum
import Derived.Test.YtcappjcojggehaaGreatSpBulk
set_option linter.all false
set_option linter.unusedSimpArgs false
set_option linter.unusedVariables false
namespace Go.Proofs.YtcappjcojggehaaGreat
open Go.AW

def specR (p : zmm) : Prop := zng p.view ∧ zng p.seq ∧ zng p.dig ∧ p.batch < 256 ∧ p.first < 256
def voteR (v : zcv) : Prop := zng v.key ∧ zng v.kind ∧ zng v.view ∧ zng v.seq ∧ v.batch < 256
def tyVote : List Ty := [.int .i64, .int .i64, .int .i64, .int .i64, .int .u8]
def tySpec : List Ty := [.int .i64, .int .i64, .int .u8, .int .i64, .int .u8, .slice [.int .u8]]
def tyCase : List Ty := [.int .i64, .slice [.slice tyReq], .slice tyVote, .slice tySpec, .int .i64, .int .i64]
theorem dec_vote {ds : List D} (h : zcY tyVote ds) : ∃ v : zcv, ds = zfB v ∧ voteR v := by
  obtain ⟨d1, ds, rfl, h1, h⟩ := zax h
  obtain ⟨d2, ds, rfl, h2, h⟩ := zax h
  obtain ⟨d3, ds, rfl, h3, h⟩ := zax h
  obtain ⟨d4, ds, rfl, h4, h⟩ := zax h
  obtain ⟨d5, ds, rfl, h5, h⟩ := zax h
  obtain rfl := ziO h
  obtain ⟨a1, rfl, k1⟩ := zdt h1
  obtain ⟨a2, rfl, k2⟩ := zdt h2
  obtain ⟨a3, rfl, k3⟩ := zdt h3
  obtain ⟨a4, rfl, k4⟩ := zdt h4
  obtain ⟨a5, rfl⟩ := dec_u8 h5
  exact ⟨⟨a1, a2, a3, a4, a5.toNat⟩, rfl, k1, k2, k3, k4, a5.toNat_lt⟩
theorem dec_spec {ds : List D} (h : zcY tySpec ds) : ∃ p : zmm, ds = zjE p ∧ specR p := by
  obtain ⟨d1, ds, rfl, h1, h⟩ := zax h
  obtain ⟨d2, ds, rfl, h2, h⟩ := zax h
  obtain ⟨d3, ds, rfl, h3, h⟩ := zax h
  obtain ⟨d4, ds, rfl, h4, h⟩ := zax h
  obtain ⟨d5, ds, rfl, h5, h⟩ := zax h
  obtain ⟨d6, ds, rfl, h6, h⟩ := zax h
  obtain rfl := ziO h
  obtain ⟨a1, rfl, k1⟩ := zdt h1
  obtain ⟨a2, rfl, k2⟩ := zdt h2
  obtain ⟨a3, rfl⟩ := dec_u8 h3
  obtain ⟨a4, rfl, k4⟩ := zdt h4
  obtain ⟨a5, rfl⟩ := dec_u8 h5
  obtain ⟨a6, rfl⟩ := dec_bytes h6
  exact ⟨⟨a1, a2, a3.toNat, a4, a5.toNat, a6⟩, rfl, k1, k2, k4, a3.toNat_lt, a5.toNat_lt⟩
structure TCase where
  f : Int
  bats : List (List zd)
  votes : List zcv
  specs : List zmm
  view : Int
  low : Int
abbrev reqsD (l : List zd) : List D := [.slice (zeu l)]
def caseD (c : TCase) : List D := [.int .i64 c.f, .slice (c.bats.map fun l => [.slice (zeu l)]), .slice (c.votes.map zfB), .slice (c.specs.map zjE), .int .i64 c.view, .int .i64 c.low]
structure okC (c : TCase) : Prop where
  f : zng c.f
  view : zng c.view
  low : zng c.low
  ops : ∀ l ∈ c.bats, ∀ x ∈ l, zfz x.op ≤ 20971520
  bl : c.bats.length ≤ 1073741824
  br : ∀ l ∈ c.bats, l.length ≤ 1073741824
  sum : (c.bats.map List.length).sum + c.votes.length ≤ 536870912
  votes : ∀ v ∈ c.votes, voteR v
  specs : ∀ p ∈ c.specs, specR p ∧ p.signs.length ≤ 1073741824
  sl : c.specs.length ≤ 1048576
theorem zjG (l : List zd) : zdw (zeu l) ≤ zcQ (reqsD l) := by simp only [reqsD, zcQ, zfV]; omega
theorem specD_bulk (p : zmm) : p.signs.length ≤ zcQ (zjE p) := by simp only [zjE, zcQ, zfV, bulk_bcs]; omega
theorem sum_bulk (bats : List (List zd)) : (bats.map List.length).sum ≤ zdw (bats.map reqsD) := by
  induction bats with
  | nil => simp
  | cons l bats ih =>
    have := zer (f := reqD) (fun a => by simp only [reqD, zcQ, zfV]; omega) l
    have e := zjG l
    unfold zeu at e
    simp only [List.map_cons, List.sum_cons, zdw] at ih ⊢
    omega
theorem dec_case {ds : List D} (h : zcY tyCase ds) (hb : zcQ ds ≤ 1048576) : ∃ c, ds = caseD c ∧ okC c := by
  obtain ⟨d1, ds, rfl, h1, h⟩ := zax h
  obtain ⟨d2, ds, rfl, h2, h⟩ := zax h
  obtain ⟨d3, ds, rfl, h3, h⟩ := zax h
  obtain ⟨d4, ds, rfl, h4, h⟩ := zax h
  obtain ⟨d5, ds, rfl, h5, h⟩ := zax h
  obtain ⟨d6, ds, rfl, h6, h⟩ := zax h
  obtain rfl := ziO h
  obtain ⟨f, rfl, k1⟩ := zdt h1
  obtain ⟨bats, rfl⟩ := zmb (f := reqsD) h2 fun e he => by
    obtain ⟨d, rfl, h1⟩ := one_of he
    obtain ⟨b, rfl, _⟩ := dec_reqs h1
    exact ⟨b, rfl⟩
  obtain ⟨votes, rfl, k3⟩ := zke h3 fun e he => dec_vote he
  obtain ⟨specs, rfl, k4⟩ := zke h4 fun e he => dec_spec he
  obtain ⟨view, rfl, k5⟩ := zdt h5
  obtain ⟨low, rfl, k6⟩ := zdt h6
  simp only [zcQ, zfV] at hb
  have b1 := sum_bulk bats
  have b2 := zer (f := reqsD) (fun a => by simp only [reqsD, zcQ, zfV]; omega) bats
  have b3 := zer (f := zfB) (fun a => by simp only [zfB, zcQ, zfV]; omega) votes
  have b4 := zer (f := zjE) (fun a => by simp only [zjE, zcQ, zfV]; omega) specs
  refine ⟨⟨f, bats, votes, specs, view, low⟩, rfl, k1, k5, k6, fun l hl => ?_, ?_, fun l hl => ?_, ?_, k3, fun p hp => ⟨k4 p hp, ?_⟩, ?_⟩
  · have := zfU (l := bats) (f := reqsD) hl
    have e := zjG l
    exact (reqs_sz (b := l) (n := 1048576) (by omega) (by omega)).1
  · simp only; omega
  · have := zfU (l := bats) (f := reqsD) hl
    have e := zjG l
    have := (reqs_sz (b := l) (n := 1048576) (by omega) (by omega)).2
    omega
  · simp only; omega
  · have := zfU (l := specs) (f := zjE) hp
    have e := specD_bulk p
    omega
  · simp only; omega
end Go.Proofs.YtcappjcojggehaaGreat
