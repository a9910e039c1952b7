/- What a beginning makes; a certificate that the document tells. -/
import Derived.Test.YtjjchfbckfopkaaGreatBg2
import Derived.Test.YtjjchfbckfopkaaGreatPr3
import Derived.Test.YtjjchfbckfopkaaGreatHe5
import Derived.Test.YtjjchfbckfopkaaGreatSpBulk
import Derived.Test.YtjjchfbckfopkaaGreatSpNum
set_option linter.all false
set_option maxRecDepth 100000
set_option linter.unusedSimpArgs false
set_option linter.unusedVariables false
namespace Go.Proofs.YtjjchfbckfopkaaGreat
open Go.AW

theorem beI_fold {l : List (List zf)} {k tot rest : Nat} {B : zlT} (h : BeI k tot ((l.map List.length).sum + rest) B) (hl : ∀ b ∈ l, ∀ x ∈ b, zgo x.op ≤ 20971520) (ht : tot ≤ 536870912) : BeI (k + l.length) tot rest (l.foldl beB B) := by
  induction l generalizing k B with
  | nil => simpa using h
  | cons b l ih =>
    rw [List.map_cons, List.sum_cons, Nat.add_assoc] at h
    have := ih (beI h (hl b (by simp)) ht) fun c hc => hl c (by simp [hc])
    simp only [List.foldl_cons, List.length_cons]
    rwa [show k + (l.length + 1) = k + 1 + l.length by omega]
theorem beB_ss {l : List (List zf)} {B : zlT} : (l.foldl beB B).ss = B.ss := by
  induction l generalizing B with
  | nil => rfl
  | cons b l ih => rw [List.foldl_cons, ih]; rfl
theorem bvI_fold {l : List zqj} {tot rest : Nat} {B0 B : zlT} (h : BvI tot (l.length + rest) B0 B) : BvI tot rest B0 (l.foldl beV B) ∧ (l.foldl beV B).ss.length = B.ss.length + l.length := by
  induction l generalizing B with
  | nil => exact ⟨by simpa using h, rfl⟩
  | cons v l ih =>
    rw [List.length_cons, show l.length + 1 + rest = l.length + rest + 1 by omega] at h
    obtain ⟨h1, h2⟩ := ih (bvI h)
    refine ⟨h1, ?_⟩
    rw [List.foldl_cons, h2]
    simp [beV]; omega
structure BegI (n : Nat) (B : zlT) : Prop where
  tab : TabI B.L
  led : B.G.length ≤ 536870912
  bl : B.bs.length = n + 1
  dl : B.ds.length = B.bs.length
  sz : ∀ b ∈ B.bs, (∀ x ∈ b, zgo x.op ≤ 20971520) ∧ b.length ≤ 536870912
  ss0 : 0 < B.ss.length
  ss1 : B.ss.length ≤ 536870913
theorem begI {bats : List (List zf)} {votes : List zqj} (hb : ∀ l ∈ bats, ∀ x ∈ l, zgo x.op ≤ 20971520) (hsum : (bats.map List.length).sum + votes.length ≤ 536870912) : BegI bats.length (begF bats votes) := by
  have h1 : BeI (0 + ([] :: bats).length) ((bats.map List.length).sum) 0 (begB bats) := beI_fold (B := beg0) ⟨TabI.nil, by simp [beg0], rfl, rfl, by simp [beg0]⟩ (by intro b hbm; rcases List.mem_cons.1 hbm with rfl | hm; simp; exact hb b hm) (by omega)
  have hs : (begB bats).ss.length = 1 := by rw [begB, beB_ss]; rfl
  obtain ⟨h2, h3⟩ := bvI_fold (l := votes) (tot := (bats.map List.length).sum + votes.length) (rest := 0) (B0 := begB bats) (B := begB bats) ⟨h1.tab, by have := h1.led; omega, rfl, rfl⟩
  have hl := h1.bl
  have hd := h1.dl
  simp only [List.length_cons] at hl hd
  refine ⟨h2.tab, ?_, ?_, ?_, ?_, ?_, ?_⟩
  · have := h2.led; rw [begF]; omega
  · rw [begF, h2.bs, hl]; omega
  · rw [begF, h2.bs, h2.ds, hl, hd]
  · rw [begF, h2.bs]; exact h1.sz
  · rw [begF, h3]; omega
  · rw [begF, h3, hs]; omega
theorem mem_getD {α : Type} {l : List α} {i : Nat} {d : α} (h : i < l.length) : l.getD i d ∈ l := by
  simp [List.getD, List.getElem?_eq_getElem h]
theorem zoE {n : Nat} {B : zlT} (h : BegI n B) {p : TSpec} (hp : p.signs.length ≤ 1073741824) : zdb (zoa B.bs B.ds B.ss p) := by
  have hb := h.bl
  have hm := h.sz _ (mem_getD (l := B.bs) (d := []) (i := p.batch % B.bs.length) (Nat.mod_lt _ (by omega)))
  refine ⟨hm.1, ?_, ?_⟩
  · have := hm.2
    exact Nat.le_trans this (by omega)
  · simp only [zoa, List.length_map]; exact hp
theorem end_tab {σ : List zb} {C : zb} {B : zlT} : zde (σ ++ endO σ.length C B) (σ.length + 2) (σ.length + 1) (σ.length + 3) B.L :=
  ⟨by rw [zi]; rfl, by rw [zi]; rfl, by rw [zi]; rfl⟩
theorem end_led {σ : List zb} {C : zb} {B : zlT} : zdg (σ ++ endO σ.length C B) (σ.length + 5) (σ.length + 4) (σ.length + 6) B.G :=
  ⟨by rw [zi]; rfl, by rw [zi]; rfl, by rw [zi]; rfl⟩
theorem end_st {σ : List zb} {C : zb} {B : zlT} : (σ ++ endO σ.length C B)[σ.length + 9]? = some (.box [.box (σ.length + 2) 0, .box (σ.length + 5) 0, .box (σ.length + 7) 0, .box (σ.length + 8) 0, .d (.slice (bsE B.bs)), .d (.slice (dsE B.ds)), .d (.slice (zaB B.ss))]) := by rw [zi]; rfl
def liveV : List zqj := [⟨0, 2, 0, 1, 0⟩, ⟨1, 3, 0, 1, 0⟩, ⟨3, 3, 0, 1, 0⟩]
def goodP : TSpec := ⟨0, 1, 0, 0, 1, [2, 3]⟩
def badP : TSpec := ⟨0, 1, 0, 0, 1, [2]⟩
abbrev zpG : zlT := begF [] liveV
def liveOf (p : TSpec) : zw := zoa zpG.bs zpG.ds zpG.ss p
theorem live_good : zme zpG.L zpG.G 1 (liveOf goodP) = true := by decide +kernel
theorem live_bad : zme zpG.L zpG.G 1 (liveOf badP) = false := by decide +kernel

theorem live_I : BegI 0 zpG := begI (bats := []) (votes := liveV) (by simp) (by simp [liveV])
theorem c_live15 {σ : List zb} {K : AV → List zb → Prop} (hK : K (.d (.bool true)) σ) : zt Tryz.prog zkU [] σ K := by
  refine acE0 e_l15_live fun hl => ?_
  have hI := live_I
  simp only [zpj, iN, bT, bF, eN, zl1]
  refine gq1 ?_
  refine c_begun (bats := []) (votes := liveV) (specs := []) (by simp) (by simp) (by simp) (by simp [liveV]) (by simp [liveV]) fun C => ?_
  generalize hc : (σ ++ [zb.box [AV.d (D.int IntKind.i64 1), AV.exact [], AV.exact [[D.int IntKind.i64 0, D.int IntKind.i64 2, D.int IntKind.i64 0, D.int IntKind.i64 1, D.int IntKind.u8 0], [D.int IntKind.i64 1, D.int IntKind.i64 3, D.int IntKind.i64 0, D.int IntKind.i64 1, D.int IntKind.u8 0], [D.int IntKind.i64 3, D.int IntKind.i64 3, D.int IntKind.i64 0, D.int IntKind.i64 1, D.int IntKind.u8 0]], AV.exact [], AV.d (D.int IntKind.i64 0), AV.d (D.int IntKind.i64 0)]]) = c
  have lg := live_good
  have lb := live_bad
  simp only [liveOf] at lg lb
  unfold zpG at lg lb hI
  obtain ⟨B, hB⟩ : ∃ B, begF [] liveV = B := ⟨_, rfl⟩
  rw [hB] at lg lb hI ⊢
  obtain ⟨S, hS⟩ : ∃ S, c ++ endO c.length C B = S := ⟨_, rfl⟩
  have st : S[c.length + 9]? = some (.box [.box (c.length + 2) 0, .box (c.length + 5) 0, .box (c.length + 7) 0, .box (c.length + 8) 0, .d (.slice (bsE B.bs)), .d (.slice (dsE B.ds)), .d (.slice (zaB B.ss))]) := hS ▸ end_st
  have stt : ∀ τ, (S ++ τ)[c.length + 9]? = _ := fun τ => ze st
  have tt : zde S _ _ _ B.L := hS ▸ end_tab
  have tl : zdg S _ _ _ B.G := hS ▸ end_led
  rw [hS]
  have h1 := hI.bl
  have h2 := hI.dl
  have h3 := hI.ss0
  have h4 := hI.ss1
  have h5 := hI.led
  have sg := zoE hI (p := goodP) (by decide)
  have sb := zoE hI (p := badP) (by decide)
  refine gq1 ?_
  refine c_made15 (p := goodP) st (by omega) h2 (by omega) h3 (by omega) (by decide) (by decide) (by decide) ?_
  refine gq1 ?_
  refine c_made15 (p := badP) (stt _) (by omega) h2 (by omega) h3 (by omega) (by decide) (by decide) (by decide) ?_
  have hgs : (zoa B.bs B.ds B.ss goodP).seq = 1 := rfl
  generalize zoa B.bs B.ds B.ss goodP = g at *
  generalize zoa B.bs B.ds B.ss badP = b at *
  refine gq1 ?_
  refine zqd ?_
  have hir : inR g = true := by rw [inR, hgs]; decide
  have ho1 : hOk [] g = true := rfl
  have hp1 : hPut [] g = [(g.seq, g)] := rfl
  have hf : zcR g.seq [(g.seq, g)] 0 = some (0, g) := by simp [zcR]
  have ho2 : hOk [(g.seq, g)] g = false := by rw [hOk, hf]; simp
  have hp2 : hPut [(g.seq, g)] g = [(g.seq, g)] := by rw [hPut, hf]; simp
  refine gq2 stt ?_
  refine c_prValid (tt.app _) (tl.app _) hI.tab (by omega) sg ?_
  rw [lg]
  refine gq2 stt ?_
  refine c_prValid (tt.app _) (tl.app _) hI.tab (by omega) sb ?_
  rw [lb]
  refine gq2 stt ?_
  refine zqc (h := S.length + 3) (m := S.length + 2) (l := []) ?_ sg ?_
  · exact ⟨by rw [zi]; rfl, by rw [zi]; rfl⟩
  rw [hir, ho1, hp1, if_pos rfl, zu]
  simp only [Bool.and_self, Bool.and_false, List.set_cons_succ, List.set_cons_zero]
  refine gq1 ?_
  refine zqc (h := S.length + 3) (m := S.length + 2) (l := [(g.seq, g)]) ?_ sg ?_
  · exact ⟨by rw [zi]; rfl, by rw [zi]; rfl⟩
  rw [hir, ho2, hp2, if_pos rfl, zu]
  simp only [Bool.and_self, Bool.and_false, List.set_cons_succ, List.set_cons_zero]
  refine gq1 ?_
  refine c_heLen (h := S.length + 3) (m := S.length + 2) (l := [(g.seq, g)]) ?_ ?_
  · exact ⟨by rw [zi]; rfl, by rw [zi]; rfl⟩
  refine gq1 ?_
  rw [← hS, ← hc, List.append_assoc, List.append_assoc]
  refine zam hl ?_
  exact hK

theorem small_prep {p : zw} (h : zcA (zdY p) ≤ 1048576) : zdb p := by
  have h5 := leP_bulk h
  simp only [zdY, zcA, zfA] at h
  obtain ⟨h6, h7⟩ := batch_sz (b := p.batch) (n := 1048576) (by omega) (by omega)
  exact ⟨h6, by omega, by have := h5.1; omega⟩
end Go.Proofs.YtjjchfbckfopkaaGreat
