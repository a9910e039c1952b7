/- What a beginning makes; a certificate that the document tells. -/
import Derived.Test.YtcappjcojggehaaGreatBg2
import Derived.Test.YtcappjcojggehaaGreatPr3
set_option linter.all false
set_option maxRecDepth 100000
set_option linter.unusedSimpArgs false
set_option linter.unusedVariables false
namespace Go.Proofs.YtcappjcojggehaaGreat
open Go.AW

theorem beI_fold {l : List (List zd)} {k tot rest : Nat} {B : zio} (h : BeI k tot ((l.map List.length).sum + rest) B) (hl : ∀ b ∈ l, ∀ x ∈ b, zfz x.op ≤ 20971520) (ht : tot ≤ 536870912) : BeI (k + l.length) tot rest (l.foldl beB B) := by
  induction l generalizing k B with
  | nil => simpa using h
  | cons b l ih =>
    rw [List.map_cons, List.sum_cons, Nat.add_assoc] at h
    have := ih (beI h (hl b (by simp)) ht) fun c hc => hl c (by simp [hc])
    simp only [List.foldl_cons, List.length_cons]
    rwa [show k + (l.length + 1) = k + 1 + l.length by omega]
theorem beB_ss {l : List (List zd)} {B : zio} : (l.foldl beB B).ss = B.ss := by
  induction l generalizing B with
  | nil => rfl
  | cons b l ih => rw [List.foldl_cons, ih]; rfl
theorem bvI_fold {l : List zcv} {tot rest : Nat} {B0 B : zio} (h : BvI tot (l.length + rest) B0 B) : BvI tot rest B0 (l.foldl beV B) ∧ (l.foldl beV B).ss.length = B.ss.length + l.length := by
  induction l generalizing B with
  | nil => exact ⟨by simpa using h, rfl⟩
  | cons v l ih =>
    rw [List.length_cons, show l.length + 1 + rest = l.length + rest + 1 by omega] at h
    obtain ⟨h1, h2⟩ := ih (bvI h)
    refine ⟨h1, ?_⟩
    rw [List.foldl_cons, h2]
    simp [beV]; omega
structure BegI (n : Nat) (B : zio) : Prop where
  tab : TabI B.L
  led : B.G.length ≤ 536870912
  bl : B.bs.length = n + 1
  dl : B.ds.length = B.bs.length
  sz : ∀ b ∈ B.bs, (∀ x ∈ b, zfz x.op ≤ 20971520) ∧ b.length ≤ 536870912
  ss0 : 0 < B.ss.length
  ss1 : B.ss.length ≤ 536870913
theorem begI {bats : List (List zd)} {votes : List zcv} (hb : ∀ l ∈ bats, ∀ x ∈ l, zfz x.op ≤ 20971520) (hsum : (bats.map List.length).sum + votes.length ≤ 536870912) : BegI bats.length (begF bats votes) := by
  have h1 : BeI (0 + ([] :: bats).length) ((bats.map List.length).sum) 0 (begB bats) := beI_fold (B := beg0) ⟨TabI.nil, by simp [beg0], rfl, rfl, by simp [beg0]⟩ (by intro b hbm; rcases List.mem_cons.1 hbm with rfl | hm; simp; exact hb b hm) (by omega)
  have hs : (begB bats).ss.length = 1 := by rw [begB, beB_ss]; rfl
  obtain ⟨h2, h3⟩ := bvI_fold (l := votes) (tot := (bats.map List.length).sum + votes.length) (rest := 0) (B0 := begB bats) (B := begB bats) ⟨h1.tab, by have := h1.led; omega, rfl, rfl⟩
  have hl := h1.bl
  have hd := h1.dl
  simp only [List.length_cons] at hl hd
  refine ⟨h2.tab, ?_, ?_, ?_, ?_, ?_, ?_⟩
  · have := h2.led; rw [begF]; omega
  · rw [begF, h2.bs, hl]; omega
  · rw [begF, h2.bs, h2.ds, hl, hd]
  · rw [begF, h2.bs]; exact h1.sz
  · rw [begF, h3]; omega
  · rw [begF, h3, hs]; omega
theorem mem_getD {α : Type} {l : List α} {i : Nat} {d : α} (h : i < l.length) : l.getD i d ∈ l := by
  simp [List.getD, List.getElem?_eq_getElem h]
theorem zjX {n : Nat} {B : zio} (h : BegI n B) {p : zmm} (hp : p.signs.length ≤ 1073741824) : smallP (zlE B.bs B.ds B.ss p) := by
  have hb := h.bl
  have hm := h.sz _ (mem_getD (l := B.bs) (d := []) (i := p.batch % B.bs.length) (Nat.mod_lt _ (by omega)))
  refine ⟨hm.1, ?_, ?_⟩
  · have := hm.2
    exact Nat.le_trans this (by omega)
  · simp only [zlE, List.length_map]; exact hp
theorem end_tab {σ : List zb} {C : zb} {B : zio} : zcT (σ ++ endO σ.length C B) (σ.length + 2) (σ.length + 1) (σ.length + 3) B.L :=
  ⟨by rw [zh]; rfl, by rw [zh]; rfl, by rw [zh]; rfl⟩
theorem end_led {σ : List zb} {C : zb} {B : zio} : zcU (σ ++ endO σ.length C B) (σ.length + 5) (σ.length + 4) (σ.length + 6) B.G :=
  ⟨by rw [zh]; rfl, by rw [zh]; rfl, by rw [zh]; rfl⟩
theorem end_st {σ : List zb} {C : zb} {B : zio} : (σ ++ endO σ.length C B)[σ.length + 9]? = some (.box [.box (σ.length + 2) 0, .box (σ.length + 5) 0, .box (σ.length + 7) 0, .box (σ.length + 8) 0, .d (.slice (bsE B.bs)), .d (.slice (dsE B.ds)), .d (.slice (zaY B.ss))]) := by rw [zh]; rfl
def liveV : List zcv := [⟨0, 2, 0, 1, 0⟩, ⟨1, 3, 0, 1, 0⟩, ⟨3, 3, 0, 1, 0⟩]
def goodP : zmm := ⟨0, 1, 0, 0, 1, [2, 3]⟩
def badP : zmm := ⟨0, 1, 0, 0, 1, [2]⟩
abbrev zop : zio := begF [] liveV
def liveOf (p : zmm) : zcs := zlE zop.bs zop.ds zop.ss p
theorem live_good : zhe zop.L zop.G 1 (liveOf goodP) = true := by decide +kernel
theorem live_bad : zhe zop.L zop.G 1 (liveOf badP) = false := by decide +kernel
end Go.Proofs.YtcappjcojggehaaGreat
