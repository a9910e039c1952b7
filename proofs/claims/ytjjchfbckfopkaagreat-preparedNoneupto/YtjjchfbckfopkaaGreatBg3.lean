/- What a beginning makes; a certificate that the document tells. -/
import Derived.Test.YtjjchfbckfopkaaGreatBg2
import Derived.Test.YtjjchfbckfopkaaGreatPr3
import Derived.Test.YtjjchfbckfopkaaGreatHe6
import Derived.Test.YtjjchfbckfopkaaGreatSpBulk
import Derived.Test.YtjjchfbckfopkaaGreatSpNum
set_option linter.all false
set_option maxRecDepth 100000
set_option linter.unusedSimpArgs false
set_option linter.unusedVariables false
namespace Go.Proofs.YtjjchfbckfopkaaGreat
open Go.AW

theorem beI_fold {l : List (List ze)} {k tot rest : Nat} {B : zkN} (h : BeI k tot ((l.map List.length).sum + rest) B) (hl : ∀ b ∈ l, ∀ x ∈ b, zgJ x.op ≤ 20971520) (ht : tot ≤ 536870912) : BeI (k + l.length) tot rest (l.foldl beB B) := by
  induction l generalizing k B with
  | nil => simpa using h
  | cons b l ih =>
    rw [List.map_cons, List.sum_cons, Nat.add_assoc] at h
    have := ih (beI h (hl b (by simp)) ht) fun c hc => hl c (by simp [hc])
    simp only [List.foldl_cons, List.length_cons]
    rwa [show k + (l.length + 1) = k + 1 + l.length by omega]
theorem beB_ss {l : List (List ze)} {B : zkN} : (l.foldl beB B).ss = B.ss := by
  induction l generalizing B with
  | nil => rfl
  | cons b l ih => rw [List.foldl_cons, ih]; rfl
theorem bvI_fold {l : List zoM} {tot rest : Nat} {B0 B : zkN} (h : BvI tot (l.length + rest) B0 B) : BvI tot rest B0 (l.foldl beV B) ∧ (l.foldl beV B).ss.length = B.ss.length + l.length := by
  induction l generalizing B with
  | nil => exact ⟨by simpa using h, rfl⟩
  | cons v l ih =>
    rw [List.length_cons, show l.length + 1 + rest = l.length + rest + 1 by omega] at h
    obtain ⟨h1, h2⟩ := ih (bvI h)
    refine ⟨h1, ?_⟩
    rw [List.foldl_cons, h2]
    simp [beV]; omega
structure BegI (n : Nat) (B : zkN) : Prop where
  tab : TabI B.L
  led : B.G.length ≤ 536870912
  bl : B.bs.length = n + 1
  dl : B.ds.length = B.bs.length
  sz : ∀ b ∈ B.bs, (∀ x ∈ b, zgJ x.op ≤ 20971520) ∧ b.length ≤ 536870912
  ss0 : 0 < B.ss.length
  ss1 : B.ss.length ≤ 536870913
theorem begI {bats : List (List ze)} {votes : List zoM} (hb : ∀ l ∈ bats, ∀ x ∈ l, zgJ x.op ≤ 20971520) (hsum : (bats.map List.length).sum + votes.length ≤ 536870912) : BegI bats.length (begF bats votes) := by
  have h1 : BeI (0 + ([] :: bats).length) ((bats.map List.length).sum) 0 (begB bats) := beI_fold (B := beg0) ⟨TabI.nil, by simp [beg0], rfl, rfl, by simp [beg0]⟩ (by intro b hbm; rcases List.mem_cons.1 hbm with rfl | hm; simp; exact hb b hm) (by omega)
  have hs : (begB bats).ss.length = 1 := by rw [begB, beB_ss]; rfl
  obtain ⟨h2, h3⟩ := bvI_fold (l := votes) (tot := (bats.map List.length).sum + votes.length) (rest := 0) (B0 := begB bats) (B := begB bats) ⟨h1.tab, by have := h1.led; omega, rfl, rfl⟩
  have hl := h1.bl
  have hd := h1.dl
  simp only [List.length_cons] at hl hd
  refine ⟨h2.tab, ?_, ?_, ?_, ?_, ?_, ?_⟩
  · have := h2.led; rw [begF]; omega
  · rw [begF, h2.bs, hl]; omega
  · rw [begF, h2.bs, h2.ds, hl, hd]
  · rw [begF, h2.bs]; exact h1.sz
  · rw [begF, h3]; omega
  · rw [begF, h3, hs]; omega
theorem mem_getD {α : Type} {l : List α} {i : Nat} {d : α} (h : i < l.length) : l.getD i d ∈ l := by
  simp [List.getD, List.getElem?_eq_getElem h]
theorem zno {n : Nat} {B : zkN} (h : BegI n B) {p : TSpec} (hp : p.signs.length ≤ 1073741824) : smallP (zmN B.bs B.ds B.ss p) := by
  have hb := h.bl
  have hm := h.sz _ (mem_getD (l := B.bs) (d := []) (i := p.batch % B.bs.length) (Nat.mod_lt _ (by omega)))
  refine ⟨hm.1, ?_, ?_⟩
  · have := hm.2
    exact Nat.le_trans this (by omega)
  · simp only [zmN, List.length_map]; exact hp
theorem end_tab {σ : List zb} {C : zb} {B : zkN} : zcF (σ ++ endO σ.length C B) (σ.length + 2) (σ.length + 1) (σ.length + 3) B.L :=
  ⟨by rw [zg]; rfl, by rw [zg]; rfl, by rw [zg]; rfl⟩
theorem end_led {σ : List zb} {C : zb} {B : zkN} : zcS (σ ++ endO σ.length C B) (σ.length + 5) (σ.length + 4) (σ.length + 6) B.G :=
  ⟨by rw [zg]; rfl, by rw [zg]; rfl, by rw [zg]; rfl⟩
theorem end_st {σ : List zb} {C : zb} {B : zkN} : (σ ++ endO σ.length C B)[σ.length + 9]? = some (.box [.box (σ.length + 2) 0, .box (σ.length + 5) 0, .box (σ.length + 7) 0, .box (σ.length + 8) 0, .d (.slice (bsE B.bs)), .d (.slice (dsE B.ds)), .d (.slice (zaL B.ss))]) := by rw [zg]; rfl
def liveV : List zoM := [⟨0, 2, 0, 1, 0⟩, ⟨1, 3, 0, 1, 0⟩, ⟨3, 3, 0, 1, 0⟩]
def goodP : TSpec := ⟨0, 1, 0, 0, 1, [2, 3]⟩
def badP : TSpec := ⟨0, 1, 0, 0, 1, [2]⟩
abbrev zom : zkN := begF [] liveV
def liveOf (p : TSpec) : zav := zmN zom.bs zom.ds zom.ss p
theorem live_good : zkX zom.L zom.G 1 (liveOf goodP) = true := by decide +kernel
theorem live_bad : zkX zom.L zom.G 1 (liveOf badP) = false := by decide +kernel

theorem live_I : BegI 0 zom := begI (bats := []) (votes := liveV) (by simp) (by simp [liveV])
theorem c_live15 {σ : List zb} {K : AV → List zb → Prop} (hK : K (.d (.bool true)) σ) : zn Tryz.prog zjC [] σ K := by
  refine acE0 e_l15_live fun hl => ?_
  have hI := live_I
  simp only [znO, iN, bT, bF, eN, zl0]
  refine gq1 ?_
  refine c_begun (bats := []) (votes := liveV) (specs := []) (by simp) (by simp) (by simp) (by simp [liveV]) (by simp [liveV]) fun C => ?_
  generalize hc : (σ ++ [zb.box [AV.d (D.int IntKind.i64 1), AV.exact [], AV.exact [[D.int IntKind.i64 0, D.int IntKind.i64 2, D.int IntKind.i64 0, D.int IntKind.i64 1, D.int IntKind.u8 0], [D.int IntKind.i64 1, D.int IntKind.i64 3, D.int IntKind.i64 0, D.int IntKind.i64 1, D.int IntKind.u8 0], [D.int IntKind.i64 3, D.int IntKind.i64 3, D.int IntKind.i64 0, D.int IntKind.i64 1, D.int IntKind.u8 0]], AV.exact [], AV.d (D.int IntKind.i64 0), AV.d (D.int IntKind.i64 0)]]) = c
  have lg := live_good
  have lb := live_bad
  simp only [liveOf] at lg lb
  unfold zom at lg lb hI
  obtain ⟨B, hB⟩ : ∃ B, begF [] liveV = B := ⟨_, rfl⟩
  rw [hB] at lg lb hI ⊢
  obtain ⟨S, hS⟩ : ∃ S, c ++ endO c.length C B = S := ⟨_, rfl⟩
  have st : S[c.length + 9]? = some (.box [.box (c.length + 2) 0, .box (c.length + 5) 0, .box (c.length + 7) 0, .box (c.length + 8) 0, .d (.slice (bsE B.bs)), .d (.slice (dsE B.ds)), .d (.slice (zaL B.ss))]) := hS ▸ end_st
  have stt : ∀ τ, (S ++ τ)[c.length + 9]? = _ := fun τ => zk st
  have tt : zcF S _ _ _ B.L := hS ▸ end_tab
  have tl : zcS S _ _ _ B.G := hS ▸ end_led
  rw [hS]
  have h1 := hI.bl
  have h2 := hI.dl
  have h3 := hI.ss0
  have h4 := hI.ss1
  have h5 := hI.led
  have sg := zno hI (p := goodP) (by decide)
  have sb := zno hI (p := badP) (by decide)
  refine gq1 ?_
  refine c_made15 (p := goodP) st (by omega) h2 (by omega) h3 (by omega) (by decide) (by decide) (by decide) ?_
  refine gq1 ?_
  refine c_made15 (p := badP) (stt _) (by omega) h2 (by omega) h3 (by omega) (by decide) (by decide) (by decide) ?_
  have hgs : (zmN B.bs B.ds B.ss goodP).seq = 1 := rfl
  generalize zmN B.bs B.ds B.ss goodP = g at *
  generalize zmN B.bs B.ds B.ss badP = b at *
  refine gq1 ?_
  refine c_heNew ?_
  have hir : inR g = true := by rw [inR, hgs]; decide
  have ho1 : hOk [] g = true := rfl
  have hp1 : hPut [] g = [(g.seq, g)] := rfl
  have hf : zor g.seq [(g.seq, g)] 0 = some (0, g) := by simp [zor]
  have ho2 : hOk [(g.seq, g)] g = false := by rw [hOk, hf]; simp
  have hp2 : hPut [(g.seq, g)] g = [(g.seq, g)] := by rw [hPut, hf]; simp
  refine gq2 stt ?_
  refine c_prValid (tt.app _) (tl.app _) hI.tab (by omega) sg ?_
  rw [lg]
  refine gq2 stt ?_
  refine c_prValid (tt.app _) (tl.app _) hI.tab (by omega) sb ?_
  rw [lb]
  refine gq2 stt ?_
  refine c_hePut (h := S.length + 3) (m := S.length + 2) (l := []) ?_ sg ?_
  · exact ⟨by rw [zg]; rfl, by rw [zg]; rfl⟩
  rw [hir, ho1, hp1, if_pos rfl, zu]
  simp only [Bool.and_self, Bool.and_false, List.set_cons_succ, List.set_cons_zero]
  refine gq1 ?_
  refine c_hePut (h := S.length + 3) (m := S.length + 2) (l := [(g.seq, g)]) ?_ sg ?_
  · exact ⟨by rw [zg]; rfl, by rw [zg]; rfl⟩
  rw [hir, ho2, hp2, if_pos rfl, zu]
  simp only [Bool.and_self, Bool.and_false, List.set_cons_succ, List.set_cons_zero]
  refine gq1 ?_
  refine c_heLen (h := S.length + 3) (m := S.length + 2) (l := [(g.seq, g)]) ?_ ?_
  · exact ⟨by rw [zg]; rfl, by rw [zg]; rfl⟩
  refine gq1 ?_
  rw [← hS, ← hc, List.append_assoc, List.append_assoc]
  refine zam hl ?_
  exact hK

end Go.Proofs.YtjjchfbckfopkaaGreat
