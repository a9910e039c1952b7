/- What a beginning makes; a certificate that the document tells. -/
import Derived.Test.YtcappjcojggehaaBg2
import Derived.Test.YtcappjcojggehaaPr3
set_option linter.all false
set_option maxRecDepth 100000
set_option linter.unusedSimpArgs false
set_option linter.unusedVariables false
namespace Go.Proofs.Ytcappjcojggehaa
open Go.AW

theorem beI_fold {l : List (List zk)} {k tot rest : Nat} {B : TBeg} (h : BeI k tot ((l.map List.length).sum + rest) B) (hl : ∀ b ∈ l, ∀ x ∈ b, opSz x.op ≤ 20971520) (ht : tot ≤ 536870912) : BeI (k + l.length) tot rest (l.foldl beB B) := by
  induction l generalizing k B with
  | nil => simpa using h
  | cons b l ih =>
    rw [List.map_cons, List.sum_cons, Nat.add_assoc] at h
    have := ih (beI h (hl b (by simp)) ht) fun c hc => hl c (by simp [hc])
    simp only [List.foldl_cons, List.length_cons]
    rwa [show k + (l.length + 1) = k + 1 + l.length by omega]
theorem beB_ss {l : List (List zk)} {B : TBeg} : (l.foldl beB B).ss = B.ss := by
  induction l generalizing B with
  | nil => rfl
  | cons b l ih => rw [List.foldl_cons, ih]; rfl
theorem bvI_fold {l : List TVote} {tot rest : Nat} {B0 B : TBeg} (h : BvI tot (l.length + rest) B0 B) : BvI tot rest B0 (l.foldl beV B) ∧ (l.foldl beV B).ss.length = B.ss.length + l.length := by
  induction l generalizing B with
  | nil => exact ⟨by simpa using h, rfl⟩
  | cons v l ih =>
    rw [List.length_cons, show l.length + 1 + rest = l.length + rest + 1 by omega] at h
    obtain ⟨h1, h2⟩ := ih (bvI h)
    refine ⟨h1, ?_⟩
    rw [List.foldl_cons, h2]
    simp [beV]; omega
/-- what is known of what a beginning makes -/
structure BegI (n : Nat) (B : TBeg) : Prop where
  tab : TabI B.L
  led : B.G.length ≤ 536870912
  bl : B.bs.length = n + 1
  dl : B.ds.length = B.bs.length
  sz : ∀ b ∈ B.bs, (∀ x ∈ b, opSz x.op ≤ 20971520) ∧ b.length ≤ 536870912
  ss0 : 0 < B.ss.length
  ss1 : B.ss.length ≤ 536870913
theorem begI {bats : List (List zk)} {votes : List TVote} (hb : ∀ l ∈ bats, ∀ x ∈ l, opSz x.op ≤ 20971520) (hsum : (bats.map List.length).sum + votes.length ≤ 536870912) : BegI bats.length (begF bats votes) := by
  have h1 : BeI (0 + ([] :: bats).length) ((bats.map List.length).sum) 0 (begB bats) := beI_fold (B := beg0) ⟨TabI.nil, by simp [beg0], rfl, rfl, by simp [beg0]⟩ (by intro b hbm; rcases List.mem_cons.1 hbm with rfl | hm; simp; exact hb b hm) (by omega)
  have hs : (begB bats).ss.length = 1 := by rw [begB, beB_ss]; rfl
  obtain ⟨h2, h3⟩ := bvI_fold (l := votes) (tot := (bats.map List.length).sum + votes.length) (rest := 0) (B0 := begB bats) (B := begB bats) ⟨h1.tab, by have := h1.led; omega, rfl, rfl⟩
  have hl := h1.bl
  have hd := h1.dl
  simp only [List.length_cons] at hl hd
  refine ⟨h2.tab, ?_, ?_, ?_, ?_, ?_, ?_⟩
  · have := h2.led; rw [begF]; omega
  · rw [begF, h2.bs, hl]; omega
  · rw [begF, h2.bs, h2.ds, hl, hd]
  · rw [begF, h2.bs]; exact h1.sz
  · rw [begF, h3]; omega
  · rw [begF, h3, hs]; omega
theorem mem_getD {α : Type} {l : List α} {i : Nat} {d : α} (h : i < l.length) : l.getD i d ∈ l := by
  simp [List.getD, List.getElem?_eq_getElem h]
theorem zlU {n : Nat} {B : TBeg} (h : BegI n B) {p : TSpec} (hp : p.signs.length ≤ 1073741824) : zjq (madeF B.bs B.ds B.ss p) := by
  have hb := h.bl
  have hm := h.sz _ (mem_getD (l := B.bs) (d := []) (i := p.batch % B.bs.length) (Nat.mod_lt _ (by omega)))
  refine ⟨hm.1, ?_, ?_⟩
  · have := hm.2
    exact Nat.le_trans this (by omega)
  · simp only [madeF, List.length_map]; exact hp
theorem end_tab {σ : List AObj} {C : AObj} {B : TBeg} : TabAt (σ ++ endO σ.length C B) (σ.length + 2) (σ.length + 1) (σ.length + 3) B.L :=
  ⟨by rw [zm]; rfl, by rw [zm]; rfl, by rw [zm]; rfl⟩
theorem end_led {σ : List AObj} {C : AObj} {B : TBeg} : LedAt (σ ++ endO σ.length C B) (σ.length + 5) (σ.length + 4) (σ.length + 6) B.G :=
  ⟨by rw [zm]; rfl, by rw [zm]; rfl, by rw [zm]; rfl⟩
theorem end_st {σ : List AObj} {C : AObj} {B : TBeg} : (σ ++ endO σ.length C B)[σ.length + 9]? = some (.box [.box (σ.length + 2) 0, .box (σ.length + 5) 0, .box (σ.length + 7) 0, .box (σ.length + 8) 0, .d (.slice (bsE B.bs)), .d (.slice (dsE B.ds)), .d (.slice (zaG B.ss))]) := by rw [zm]; rfl
def liveV : List TVote := [⟨0, 2, 0, 1, 0⟩, ⟨1, 3, 0, 1, 0⟩, ⟨3, 3, 0, 1, 0⟩]
def goodP : TSpec := ⟨0, 1, 0, 0, 1, [2, 3]⟩
def badP : TSpec := ⟨0, 1, 0, 0, 1, [2]⟩
abbrev liveB : TBeg := begF [] liveV
def liveOf (p : TSpec) : TPrep := madeF liveB.bs liveB.ds liveB.ss p
theorem live_good : prepF liveB.L liveB.G 1 (liveOf goodP) = true := by decide +kernel
theorem live_bad : prepF liveB.L liveB.G 1 (liveOf badP) = false := by decide +kernel
end Go.Proofs.Ytcappjcojggehaa
