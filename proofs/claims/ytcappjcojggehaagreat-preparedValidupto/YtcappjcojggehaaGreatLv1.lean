/- A certificate that the document tells: taken. -/
import Derived.Test.YtcappjcojggehaaGreatBg3
set_option linter.all false
set_option maxRecDepth 100000
set_option linter.unusedSimpArgs false
set_option linter.unusedVariables false
namespace Go.Proofs.YtcappjcojggehaaGreat
open Go.AW

theorem live_I : BegI 0 zoD := begI (bats := []) (votes := liveV) (by simp) (by simp [liveV])
theorem c_live15 {σ : List zb} {K : AV → List zb → Prop} (hK : K (.d (.bool true)) σ) : zK Tryz.prog zkg [] σ K := by
  refine zi znL.is rfl fun hl _ => znL.goes ?_
  have hI := live_I
  simp only [zog, iN, bT, bF, eN]
  (repeat' first | refine gq1 ?_ | with_reducible first | exact ⟨⟩ | refine zn ?_ | fail)
  refine c_begun (bats := []) (votes := liveV) (specs := []) (by simp) (by simp) (by simp) (by simp [liveV]) (by simp [liveV]) fun C => ?_
  generalize hc : (σ ++ [zb.box [AV.d (D.int IntKind.i64 1), AV.exact [], AV.exact [[D.int IntKind.i64 0, D.int IntKind.i64 2, D.int IntKind.i64 0, D.int IntKind.i64 1, D.int IntKind.u8 0], [D.int IntKind.i64 1, D.int IntKind.i64 3, D.int IntKind.i64 0, D.int IntKind.i64 1, D.int IntKind.u8 0], [D.int IntKind.i64 3, D.int IntKind.i64 3, D.int IntKind.i64 0, D.int IntKind.i64 1, D.int IntKind.u8 0]], AV.exact [], AV.d (D.int IntKind.i64 0), AV.d (D.int IntKind.i64 0)]]) = c
  have lg := live_good
  have lb := live_bad
  simp only [liveOf] at lg lb
  unfold zoD at lg lb hI
  obtain ⟨B, hB⟩ : ∃ B, begF [] liveV = B := ⟨_, rfl⟩
  rw [hB] at lg lb hI ⊢
  obtain ⟨S, hS⟩ : ∃ S, c ++ endO c.length C B = S := ⟨_, rfl⟩
  have st : S[c.length + 9]? = some (.box [.box (c.length + 2) 0, .box (c.length + 5) 0, .box (c.length + 7) 0, .box (c.length + 8) 0, .d (.slice (bsE B.bs)), .d (.slice (dsE B.ds)), .d (.slice (zaV B.ss))]) := hS ▸ end_st
  have stt : ∀ τ, (S ++ τ)[c.length + 9]? = _ := fun τ => zE st
  have tt : zcy S _ _ _ B.L := hS ▸ end_tab
  have tl : zcz S _ _ _ B.G := hS ▸ end_led
  rw [hS]
  have h1 := hI.bl
  have h2 := hI.dl
  have h3 := hI.ss0
  have h4 := hI.ss1
  have h5 := hI.led
  have sg := zkl hI (p := goodP) (by decide)
  have sb := zkl hI (p := badP) (by decide)
  (repeat' first | refine gq1 ?_ | with_reducible first | exact ⟨⟩ | refine zn ?_ | fail)
  refine zoO (p := goodP) st (by omega) h2 (by omega) h3 (by omega) (by decide) (by decide) (by decide) ?_
  (repeat' first | refine gq1 ?_ | with_reducible first | exact ⟨⟩ | refine zn ?_ | fail)
  refine zoO (p := badP) (stt _) (by omega) h2 (by omega) h3 (by omega) (by decide) (by decide) (by decide) ?_
  have hgs : (zlQ B.bs B.ds B.ss goodP).seq = 1 := rfl
  generalize zlQ B.bs B.ds B.ss goodP = g at *
  generalize zlQ B.bs B.ds B.ss badP = b at *
  (repeat' first | refine gq1 ?_ | with_reducible first | exact ⟨⟩ | refine zn ?_ | fail)
  refine c_heNew ?_
  have hir : inR g = true := by rw [inR, hgs]; decide
  have ho1 : hOk [] g = true := rfl
  have hp1 : hPut [] g = [(g.seq, g)] := rfl
  have hf : findP g.seq [(g.seq, g)] 0 = some (0, g) := by simp [findP]
  have ho2 : hOk [(g.seq, g)] g = false := by rw [hOk, hf]; simp
  have hp2 : hPut [(g.seq, g)] g = [(g.seq, g)] := by rw [hPut, hf]; simp
  (repeat' first | refine gq2 stt ?_ | with_reducible first | exact ⟨⟩ | refine zn ?_ | fail)
  refine zjC (tt.app _) (tl.app _) hI.tab (by omega) sg ?_
  rw [lg]
  (repeat' first | refine gq2 stt ?_ | with_reducible first | exact ⟨⟩ | refine zn ?_ | fail)
  refine zjC (tt.app _) (tl.app _) hI.tab (by omega) sb ?_
  rw [lb]
  (repeat' first | refine gq2 stt ?_ | with_reducible first | exact ⟨⟩ | refine zn ?_ | fail)
  refine c_hePut (h := S.length + 3) (m := S.length + 2) (l := []) ?_ sg ?_
  · exact ⟨by rw [zg]; rfl, by rw [zg]; rfl⟩
  rw [hir, ho1, hp1, if_pos rfl, zt]
  simp only [Bool.and_self, Bool.and_false, List.set_cons_succ, List.set_cons_zero]
  (repeat' first | refine gq1 ?_ | with_reducible first | exact ⟨⟩ | refine zn ?_ | fail)
  refine c_hePut (h := S.length + 3) (m := S.length + 2) (l := [(g.seq, g)]) ?_ sg ?_
  · exact ⟨by rw [zg]; rfl, by rw [zg]; rfl⟩
  rw [hir, ho2, hp2, if_pos rfl, zt]
  simp only [Bool.and_self, Bool.and_false, List.set_cons_succ, List.set_cons_zero]
  (repeat' first | refine gq1 ?_ | with_reducible first | exact ⟨⟩ | refine zn ?_ | fail)
  refine c_heLen (h := S.length + 3) (m := S.length + 2) (l := [(g.seq, g)]) ?_ ?_
  · exact ⟨by rw [zg]; rfl, by rw [zg]; rfl⟩
  (repeat' first | refine gq1 ?_ | with_reducible first | exact ⟨⟩ | refine zn ?_ | fail)
  rw [← hS, ← hc, List.append_assoc, List.append_assoc]
  (first | refine zai hl ?_ | refine zah hl ?_)
  exact hK
end Go.Proofs.YtcappjcojggehaaGreat
