/- A certificate that the document tells: taken. -/
import Derived.Test.YtcappjcojggehaaGreatBg3
import Derived.Test.YtcappjcojggehaaGreatAu3
import Derived.Test.YtcappjcojggehaaGreatPr2
import Derived.Test.YtcappjcojggehaaGreatLaw15c
set_option linter.all false
set_option maxRecDepth 100000
set_option linter.unusedSimpArgs false
set_option linter.unusedVariables false
namespace Go.Proofs.YtcappjcojggehaaGreat
open Go.AW

theorem live_I : BegI 0 zop := begI (bats := []) (votes := liveV) (by simp) (by simp [liveV])
theorem c_live15 {σ : List zb} {K : AV → List zb → Prop} (hK : K (.d (.bool true)) σ) : zN Tryz.prog zjR [] σ K := by
  refine zk znA.is rfl fun hl _ => znA.goes ?_
  have hI := live_I
  simp only [znW, iN, bT, bF, eN]
  (repeat' first | refine gq1 ?_ | with_reducible first | exact ⟨⟩ | refine zA ?_ | fail)
  refine c_begun (bats := []) (votes := liveV) (specs := []) (by simp) (by simp) (by simp) (by simp [liveV]) (by simp [liveV]) fun C => ?_
  generalize hc : (σ ++ [zb.box [AV.d (D.int IntKind.i64 1), AV.exact [], AV.exact [[D.int IntKind.i64 0, D.int IntKind.i64 2, D.int IntKind.i64 0, D.int IntKind.i64 1, D.int IntKind.u8 0], [D.int IntKind.i64 1, D.int IntKind.i64 3, D.int IntKind.i64 0, D.int IntKind.i64 1, D.int IntKind.u8 0], [D.int IntKind.i64 3, D.int IntKind.i64 3, D.int IntKind.i64 0, D.int IntKind.i64 1, D.int IntKind.u8 0]], AV.exact [], AV.d (D.int IntKind.i64 0), AV.d (D.int IntKind.i64 0)]]) = c
  have lg := live_good
  have lb := live_bad
  simp only [liveOf] at lg lb
  unfold zop at lg lb hI
  obtain ⟨B, hB⟩ : ∃ B, begF [] liveV = B := ⟨_, rfl⟩
  rw [hB] at lg lb hI ⊢
  obtain ⟨S, hS⟩ : ∃ S, c ++ endO c.length C B = S := ⟨_, rfl⟩
  have st : S[c.length + 9]? = some (.box [.box (c.length + 2) 0, .box (c.length + 5) 0, .box (c.length + 7) 0, .box (c.length + 8) 0, .d (.slice (bsE B.bs)), .d (.slice (dsE B.ds)), .d (.slice (zaY B.ss))]) := hS ▸ end_st
  have stt : ∀ τ, (S ++ τ)[c.length + 9]? = _ := fun τ => zaa st
  have tt : zcT S _ _ _ B.L := hS ▸ end_tab
  have tl : zcU S _ _ _ B.G := hS ▸ end_led
  rw [hS]
  have h1 := hI.bl
  have h2 := hI.dl
  have h3 := hI.ss0
  have h4 := hI.ss1
  have h5 := hI.led
  have sg := zjX hI (p := goodP) (by decide)
  have sb := zjX hI (p := badP) (by decide)
  (repeat' first | refine gq1 ?_ | with_reducible first | exact ⟨⟩ | refine zA ?_ | fail)
  refine zoz (p := goodP) st (by omega) h2 (by omega) h3 (by omega) (by decide) (by decide) (by decide) ?_
  (repeat' first | refine gq1 ?_ | with_reducible first | exact ⟨⟩ | refine zA ?_ | fail)
  refine zoz (p := badP) (stt _) (by omega) h2 (by omega) h3 (by omega) (by decide) (by decide) (by decide) ?_
  have hgs : (zlE B.bs B.ds B.ss goodP).seq = 1 := rfl
  generalize zlE B.bs B.ds B.ss goodP = g at *
  generalize zlE B.bs B.ds B.ss badP = b at *
  (repeat' first | refine gq1 ?_ | with_reducible first | exact ⟨⟩ | refine zA ?_ | fail)
  refine c_heNew ?_
  have hir : inR g = true := by rw [inR, hgs]; decide
  have ho1 : hOk [] g = true := rfl
  have hp1 : hPut [] g = [(g.seq, g)] := rfl
  have hf : findP g.seq [(g.seq, g)] 0 = some (0, g) := by simp [findP]
  have ho2 : hOk [(g.seq, g)] g = false := by rw [hOk, hf]; simp
  have hp2 : hPut [(g.seq, g)] g = [(g.seq, g)] := by rw [hPut, hf]; simp
  (repeat' first | refine gq2 stt ?_ | with_reducible first | exact ⟨⟩ | refine zA ?_ | fail)
  refine zmg (tt.app _) (tl.app _) hI.tab (by omega) sg ?_
  rw [lg]
  (repeat' first | refine gq2 stt ?_ | with_reducible first | exact ⟨⟩ | refine zA ?_ | fail)
  refine zmg (tt.app _) (tl.app _) hI.tab (by omega) sb ?_
  rw [lb]
  (repeat' first | refine gq2 stt ?_ | with_reducible first | exact ⟨⟩ | refine zA ?_ | fail)
  refine c_hePut (h := S.length + 3) (m := S.length + 2) (l := []) ?_ sg ?_
  · exact ⟨by rw [zh]; rfl, by rw [zh]; rfl⟩
  rw [hir, ho1, hp1, if_pos rfl, zq]
  simp only [Bool.and_self, Bool.and_false, List.set_cons_succ, List.set_cons_zero]
  (repeat' first | refine gq1 ?_ | with_reducible first | exact ⟨⟩ | refine zA ?_ | fail)
  refine c_hePut (h := S.length + 3) (m := S.length + 2) (l := [(g.seq, g)]) ?_ sg ?_
  · exact ⟨by rw [zh]; rfl, by rw [zh]; rfl⟩
  rw [hir, ho2, hp2, if_pos rfl, zq]
  simp only [Bool.and_self, Bool.and_false, List.set_cons_succ, List.set_cons_zero]
  (repeat' first | refine gq1 ?_ | with_reducible first | exact ⟨⟩ | refine zA ?_ | fail)
  refine c_heLen (h := S.length + 3) (m := S.length + 2) (l := [(g.seq, g)]) ?_ ?_
  · exact ⟨by rw [zh]; rfl, by rw [zh]; rfl⟩
  (repeat' first | refine gq1 ?_ | with_reducible first | exact ⟨⟩ | refine zA ?_ | fail)
  rw [← hS, ← hc, List.append_assoc, List.append_assoc]
  (first | refine zar hl ?_ | refine zaq hl ?_)
  exact hK
end Go.Proofs.YtcappjcojggehaaGreat

/- Contracts: votes and certificates, the document's. -/
set_option maxRecDepth 100000
set_option linter.unusedSimpArgs false
set_option linter.unusedVariables false
namespace Go.Proofs.YtcappjcojggehaaGreat
open Go.AW

end Go.Proofs.YtcappjcojggehaaGreat

/- Contracts: certificates such as a view-change may tell. -/
set_option maxRecDepth 100000
set_option linter.unusedSimpArgs false
set_option linter.unusedVariables false
namespace Go.Proofs.YtcappjcojggehaaGreat
open Go.AW

end Go.Proofs.YtcappjcojggehaaGreat

/- The law PreparedValid, from the contracts. -/
set_option maxRecDepth 100000
set_option linter.unusedSimpArgs false
set_option linter.unusedVariables false
namespace Go.Proofs.YtcappjcojggehaaGreat
open Go.AW

theorem begun_case {σ : List zb} {c : TCase} (h : okC c) {K : AV → List zb → Prop} (hK : ∀ C, K (.box (σ.length + 9) 0) (σ ++ endO σ.length C (begF c.bats c.votes))) :
    zN Tryz.prog zcp [.agg [.d (.int .i64 c.f), .d (.slice (c.bats.map fun l => [.slice (zeu l)])), .d (.slice (c.votes.map zfB)), .d (.slice (c.specs.map zjE)), .d (.int .i64 c.view), .d (.int .i64 c.low)]] σ K :=
  c_begun h.ops h.bl h.br h.sum (fun v hv => (h.votes v hv).2.2.2.2) hK
theorem preps_7 (l : List zcs) : ∀ e ∈ zlu l, e.length = 7 := zjI (f := prepD) (fun _ => rfl) l
end Go.Proofs.YtcappjcojggehaaGreat
