/- What a beginning makes; a certificate that the document tells. -/
import Derived.Test.YtcappjcojggehaaGreatBg2
import Derived.Test.YtcappjcojggehaaGreatPr3
import Derived.Test.YtcappjcojggehaaGreatSpNum
import Derived.Test.YtcappjcojggehaaGreatSpBulk
set_option linter.all false
set_option maxRecDepth 100000
set_option linter.unusedSimpArgs false
set_option linter.unusedVariables false
namespace Go.Proofs.YtcappjcojggehaaGreat
open Go.AW

theorem beI_fold {l : List (List zk)} {k tot rest : Nat} {B : TBeg} (h : BeI k tot ((l.map List.length).sum + rest) B) (hl : ∀ b ∈ l, ∀ x ∈ b, opSz x.op ≤ 20971520) (ht : tot ≤ 536870912) : BeI (k + l.length) tot rest (l.foldl beB B) := by
  induction l generalizing k B with
  | nil => simpa using h
  | cons b l ih =>
    rw [List.map_cons, List.sum_cons, Nat.add_assoc] at h
    have := ih (beI h (hl b (by simp)) ht) fun c hc => hl c (by simp [hc])
    simp only [List.foldl_cons, List.length_cons]
    rwa [show k + (l.length + 1) = k + 1 + l.length by omega]
theorem beB_ss {l : List (List zk)} {B : TBeg} : (l.foldl beB B).ss = B.ss := by
  induction l generalizing B with
  | nil => rfl
  | cons b l ih => rw [List.foldl_cons, ih]; rfl
theorem bvI_fold {l : List TVote} {tot rest : Nat} {B0 B : TBeg} (h : BvI tot (l.length + rest) B0 B) : BvI tot rest B0 (l.foldl beV B) ∧ (l.foldl beV B).ss.length = B.ss.length + l.length := by
  induction l generalizing B with
  | nil => exact ⟨by simpa using h, rfl⟩
  | cons v l ih =>
    rw [List.length_cons, show l.length + 1 + rest = l.length + rest + 1 by omega] at h
    obtain ⟨h1, h2⟩ := ih (bvI h)
    refine ⟨h1, ?_⟩
    rw [List.foldl_cons, h2]
    simp [beV]; omega
/-- what is known of what a beginning makes -/
structure BegI (n : Nat) (B : TBeg) : Prop where
  tab : TabI B.L
  led : B.G.length ≤ 536870912
  bl : B.bs.length = n + 1
  dl : B.ds.length = B.bs.length
  sz : ∀ b ∈ B.bs, (∀ x ∈ b, opSz x.op ≤ 20971520) ∧ b.length ≤ 536870912
  ss0 : 0 < B.ss.length
  ss1 : B.ss.length ≤ 536870913
theorem begI {bats : List (List zk)} {votes : List TVote} (hb : ∀ l ∈ bats, ∀ x ∈ l, opSz x.op ≤ 20971520) (hsum : (bats.map List.length).sum + votes.length ≤ 536870912) : BegI bats.length (begF bats votes) := by
  have h1 : BeI (0 + ([] :: bats).length) ((bats.map List.length).sum) 0 (begB bats) := beI_fold (B := beg0) ⟨TabI.nil, by simp [beg0], rfl, rfl, by simp [beg0]⟩ (by intro b hbm; rcases List.mem_cons.1 hbm with rfl | hm; simp; exact hb b hm) (by omega)
  have hs : (begB bats).ss.length = 1 := by rw [begB, beB_ss]; rfl
  obtain ⟨h2, h3⟩ := bvI_fold (l := votes) (tot := (bats.map List.length).sum + votes.length) (rest := 0) (B0 := begB bats) (B := begB bats) ⟨h1.tab, by have := h1.led; omega, rfl, rfl⟩
  have hl := h1.bl
  have hd := h1.dl
  simp only [List.length_cons] at hl hd
  refine ⟨h2.tab, ?_, ?_, ?_, ?_, ?_, ?_⟩
  · have := h2.led; rw [begF]; omega
  · rw [begF, h2.bs, hl]; omega
  · rw [begF, h2.bs, h2.ds, hl, hd]
  · rw [begF, h2.bs]; exact h1.sz
  · rw [begF, h3]; omega
  · rw [begF, h3, hs]; omega
theorem mem_getD {α : Type} {l : List α} {i : Nat} {d : α} (h : i < l.length) : l.getD i d ∈ l := by
  simp [List.getD, List.getElem?_eq_getElem h]
theorem zju {n : Nat} {B : TBeg} (h : BegI n B) {p : TSpec} (hp : p.signs.length ≤ 1073741824) : zkh (madeF B.bs B.ds B.ss p) := by
  have hb := h.bl
  have hm := h.sz _ (mem_getD (l := B.bs) (d := []) (i := p.batch % B.bs.length) (Nat.mod_lt _ (by omega)))
  refine ⟨hm.1, ?_, ?_⟩
  · have := hm.2
    exact Nat.le_trans this (by omega)
  · simp only [madeF, List.length_map]; exact hp
theorem end_tab {σ : List AObj} {C : AObj} {B : TBeg} : TabAt (σ ++ endO σ.length C B) (σ.length + 2) (σ.length + 1) (σ.length + 3) B.L :=
  ⟨by rw [zm]; rfl, by rw [zm]; rfl, by rw [zm]; rfl⟩
theorem end_led {σ : List AObj} {C : AObj} {B : TBeg} : LedAt (σ ++ endO σ.length C B) (σ.length + 5) (σ.length + 4) (σ.length + 6) B.G :=
  ⟨by rw [zm]; rfl, by rw [zm]; rfl, by rw [zm]; rfl⟩
theorem end_x {σ : List AObj} {C : AObj} {B : TBeg} : (σ ++ endO σ.length C B)[σ.length + 7]? = some (rtO B.L) := by rw [zm]; rfl
theorem end_y {σ : List AObj} {C : AObj} {B : TBeg} : (σ ++ endO σ.length C B)[σ.length + 8]? = some (rlO B.G) := by rw [zm]; rfl
theorem end_st {σ : List AObj} {C : AObj} {B : TBeg} : (σ ++ endO σ.length C B)[σ.length + 9]? = some (.box [.box (σ.length + 2) 0, .box (σ.length + 5) 0, .box (σ.length + 7) 0, .box (σ.length + 8) 0, .d (.slice (bsE B.bs)), .d (.slice (dsE B.ds)), .d (.slice (zaw B.ss))]) := by rw [zm]; rfl
def liveV : List TVote := [⟨0, 2, 0, 1, 0⟩, ⟨1, 3, 0, 1, 0⟩, ⟨3, 3, 0, 1, 0⟩]
def goodP : TSpec := ⟨0, 1, 0, 0, 1, [2, 3]⟩
def badP : TSpec := ⟨0, 1, 0, 0, 1, [2]⟩
abbrev liveB : TBeg := begF [] liveV
def liveOf (p : TSpec) : TPrep := madeF liveB.bs liveB.ds liveB.ss p
theorem live_good : prepF liveB.L liveB.G 1 (liveOf goodP) = true := by decide +kernel
theorem live_bad : prepF liveB.L liveB.G 1 (liveOf badP) = false := by decide +kernel
end Go.Proofs.YtcappjcojggehaaGreat

/- A case of chapter 15, out of its data. No program in sight. -/
set_option linter.unusedSimpArgs false
set_option linter.unusedVariables false
namespace Go.Proofs.YtcappjcojggehaaGreat
open Go.AW

def specR (p : TSpec) : Prop := i64r p.view ∧ i64r p.seq ∧ i64r p.dig ∧ p.batch < 256 ∧ p.first < 256
def voteR (v : TVote) : Prop := i64r v.key ∧ i64r v.kind ∧ i64r v.view ∧ i64r v.seq ∧ v.batch < 256
def tyVote : List Ty := [.int .i64, .int .i64, .int .i64, .int .i64, .int .u8]
def tySpec : List Ty := [.int .i64, .int .i64, .int .u8, .int .i64, .int .u8, .slice [.int .u8]]
def tyCase : List Ty := [.int .i64, .slice [.slice tyReq], .slice tyVote, .slice tySpec, .int .i64, .int .i64]
theorem dec_vote {ds : List D} (h : zbV tyVote ds) : ∃ v : TVote, ds = voteD v ∧ voteR v := by
  obtain ⟨d1, ds, rfl, h1, h⟩ := zaj h
  obtain ⟨d2, ds, rfl, h2, h⟩ := zaj h
  obtain ⟨d3, ds, rfl, h3, h⟩ := zaj h
  obtain ⟨d4, ds, rfl, h4, h⟩ := zaj h
  obtain ⟨d5, ds, rfl, h5, h⟩ := zaj h
  obtain rfl := zih h
  obtain ⟨a1, rfl, k1⟩ := zcy h1
  obtain ⟨a2, rfl, k2⟩ := zcy h2
  obtain ⟨a3, rfl, k3⟩ := zcy h3
  obtain ⟨a4, rfl, k4⟩ := zcy h4
  obtain ⟨a5, rfl⟩ := dec_u8 h5
  exact ⟨⟨a1, a2, a3, a4, a5.toNat⟩, rfl, k1, k2, k3, k4, a5.toNat_lt⟩
theorem dec_spec {ds : List D} (h : zbV tySpec ds) : ∃ p : TSpec, ds = specD p ∧ specR p := by
  obtain ⟨d1, ds, rfl, h1, h⟩ := zaj h
  obtain ⟨d2, ds, rfl, h2, h⟩ := zaj h
  obtain ⟨d3, ds, rfl, h3, h⟩ := zaj h
  obtain ⟨d4, ds, rfl, h4, h⟩ := zaj h
  obtain ⟨d5, ds, rfl, h5, h⟩ := zaj h
  obtain ⟨d6, ds, rfl, h6, h⟩ := zaj h
  obtain rfl := zih h
  obtain ⟨a1, rfl, k1⟩ := zcy h1
  obtain ⟨a2, rfl, k2⟩ := zcy h2
  obtain ⟨a3, rfl⟩ := dec_u8 h3
  obtain ⟨a4, rfl, k4⟩ := zcy h4
  obtain ⟨a5, rfl⟩ := dec_u8 h5
  obtain ⟨a6, rfl⟩ := dec_bytes h6
  exact ⟨⟨a1, a2, a3.toNat, a4, a5.toNat, a6⟩, rfl, k1, k2, k4, a3.toNat_lt, a5.toNat_lt⟩
structure TCase where
  f : Int
  bats : List (List zk)
  votes : List TVote
  specs : List TSpec
  view : Int
  low : Int
abbrev reqsD (l : List zk) : List D := [.slice (reqsE l)]
def caseD (c : TCase) : List D := [.int .i64 c.f, .slice (c.bats.map fun l => [.slice (reqsE l)]), .slice (c.votes.map voteD), .slice (c.specs.map specD), .int .i64 c.view, .int .i64 c.low]
structure okC (c : TCase) : Prop where
  f : i64r c.f
  view : i64r c.view
  low : i64r c.low
  ops : ∀ l ∈ c.bats, ∀ x ∈ l, opSz x.op ≤ 20971520
  bl : c.bats.length ≤ 1073741824
  br : ∀ l ∈ c.bats, l.length ≤ 1073741824
  sum : (c.bats.map List.length).sum + c.votes.length ≤ 536870912
  votes : ∀ v ∈ c.votes, voteR v
  specs : ∀ p ∈ c.specs, specR p ∧ p.signs.length ≤ 1073741824
  sl : c.specs.length ≤ 1048576
theorem zjj (l : List zk) : zcA (reqsE l) ≤ bulkL (reqsD l) := by simp only [reqsD, bulkL, bulkD]; omega
theorem specD_bulk (p : TSpec) : p.signs.length ≤ bulkL (specD p) := by simp only [specD, bulkL, bulkD, bulk_bcs]; omega
theorem sum_bulk (bats : List (List zk)) : (bats.map List.length).sum ≤ zcA (bats.map reqsD) := by
  induction bats with
  | nil => simp
  | cons l bats ih =>
    have := zdJ (f := reqD) (fun a => by simp only [reqD, bulkL, bulkD]; omega) l
    have e := zjj l
    unfold reqsE at e
    simp only [List.map_cons, List.sum_cons, zcA] at ih ⊢
    omega
theorem dec_case {ds : List D} (h : zbV tyCase ds) (hb : bulkL ds ≤ 1048576) : ∃ c, ds = caseD c ∧ okC c := by
  obtain ⟨d1, ds, rfl, h1, h⟩ := zaj h
  obtain ⟨d2, ds, rfl, h2, h⟩ := zaj h
  obtain ⟨d3, ds, rfl, h3, h⟩ := zaj h
  obtain ⟨d4, ds, rfl, h4, h⟩ := zaj h
  obtain ⟨d5, ds, rfl, h5, h⟩ := zaj h
  obtain ⟨d6, ds, rfl, h6, h⟩ := zaj h
  obtain rfl := zih h
  obtain ⟨f, rfl, k1⟩ := zcy h1
  obtain ⟨bats, rfl⟩ := zlQ (f := reqsD) h2 fun e he => by
    obtain ⟨d, rfl, h1⟩ := one_of he
    obtain ⟨b, rfl, _⟩ := dec_reqs h1
    exact ⟨b, rfl⟩
  obtain ⟨votes, rfl, k3⟩ := zjL h3 fun e he => dec_vote he
  obtain ⟨specs, rfl, k4⟩ := zjL h4 fun e he => dec_spec he
  obtain ⟨view, rfl, k5⟩ := zcy h5
  obtain ⟨low, rfl, k6⟩ := zcy h6
  simp only [bulkL, bulkD] at hb
  have b1 := sum_bulk bats
  have b2 := zdJ (f := reqsD) (fun a => by simp only [reqsD, bulkL, bulkD]; omega) bats
  have b3 := zdJ (f := voteD) (fun a => by simp only [voteD, bulkL, bulkD]; omega) votes
  have b4 := zdJ (f := specD) (fun a => by simp only [specD, bulkL, bulkD]; omega) specs
  refine ⟨⟨f, bats, votes, specs, view, low⟩, rfl, k1, k5, k6, fun l hl => ?_, ?_, fun l hl => ?_, ?_, k3, fun p hp => ⟨k4 p hp, ?_⟩, ?_⟩
  · have := zeR (l := bats) (f := reqsD) hl
    have e := zjj l
    exact (reqs_sz (b := l) (n := 1048576) (by omega) (by omega)).1
  · simp only; omega
  · have := zeR (l := bats) (f := reqsD) hl
    have e := zjj l
    have := (reqs_sz (b := l) (n := 1048576) (by omega) (by omega)).2
    omega
  · simp only; omega
  · have := zeR (l := specs) (f := specD) hp
    have e := specD_bulk p
    omega
  · simp only; omega
end Go.Proofs.YtcappjcojggehaaGreat
