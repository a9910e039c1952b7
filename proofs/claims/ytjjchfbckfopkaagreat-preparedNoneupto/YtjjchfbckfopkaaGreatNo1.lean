/- Contracts: certificates kept by what no call made. -/
import Derived.Test.YtjjchfbckfopkaaGreatCk1
import Derived.Test.YtjjchfbckfopkaaGreatKsI
set_option linter.all false
set_option maxRecDepth 100000
set_option linter.unusedSimpArgs false
set_option linter.unusedVariables false
namespace Go.Proofs.YtjjchfbckfopkaaGreat
open Go.AW

def NoH (σ : List zb) (x : AV) : Prop := x = .d .nilp ∨ ∃ e, x = .box e 0 ∧ σ[e]? = some (.box [.d .nilmap])
theorem NoH.app {σ : List zb} {x : AV} (h : NoH σ x) (τ : List zb) : NoH (σ ++ τ) x := h.imp id fun ⟨e, h1, h2⟩ => ⟨e, h1, zk h2⟩
theorem take_all (a b : List zb) : (a ++ b).take a.length = a := by simp
section

variable {σ : List zb} {x : AV} {K : AV → List zb → Prop}

theorem zhJ (H : NoH σ x) (hK : K (.d (.bool true)) σ) : zn Tryz.prog zae [x] σ K := by
  refine zfz zcL fun hl => ?_
  simp only [zbT, iN, bT, bF, eN]
  rcases H with rfl | ⟨e, rfl, he⟩
  · refine gq1 ?_
    refine zam hl ?_
    exact hK
  · refine gq2 he ?_
    refine zam hl ?_
    exact hK
theorem c_hnGet {s : Int} (H : NoH σ x) (hK : K (.tup [zfw ⟨0, 0, 0, 0, 0, [], []⟩, .d (.bool false)]) σ) : zn Tryz.prog zaJ [x, .d (.int .i64 s)] σ K := by
  have H0 := H
  rcases H with rfl | ⟨e, rfl, he⟩
  all_goals
    refine zia zit fun hl => ?_
    simp only [zfe, iN, bT, bF, eN, zl0]
    refine gq1 ?_
    refine zhJ (H0.app _) ?_
    refine gq1 ?_
    refine zam hl ?_
    exact hK
theorem c_hnSlide {s : Int} (H : NoH σ x) (hK : K (.tup []) σ) : zn Tryz.prog zct [x, .d (.int .i64 s)] σ K := by
  have H0 := H
  rcases H with rfl | ⟨e, rfl, he⟩
  all_goals
    refine zia zhe fun hl => ?_
    simp only [zeo, iN, bT, bF, eN]
    refine gq1 ?_
    refine zhJ (H0.app _) ?_
    refine gq1 ?_
    refine zam hl ?_
    exact hK
theorem c_hnPut {p : zav} (H : NoH σ x) (hK : K (.d (.bool false)) σ) : zn Tryz.prog zaA [x, zfw p] σ K := by
  have H0 := H
  rcases H with rfl | ⟨e, rfl, he⟩
  all_goals
    refine zia zcg fun hl => ?_
    simp only [zci, iN, bT, bF, eN, zl0, zfw]
    refine gq1 ?_
    refine zhJ (H0.app _) ?_
    refine gq1 ?_
    refine zam hl ?_
    exact hK
theorem c_hnLen (H : NoH σ x) (hK : K (.d (.int .i64 0)) σ) : zn Tryz.prog zbA [x] σ K := by
  have H0 := H
  rcases H with rfl | ⟨e, rfl, he⟩
  all_goals
    refine zfz zeW fun hl => ?_
    simp only [zdd, iN, bT, bF, eN]
    refine gq1 ?_
    refine zhJ H0 ?_
    refine gq1 ?_
    refine zam hl ?_
    exact hK
theorem c_hnClone (H : NoH σ x) (hK : K (.d .nilp) σ) : zn Tryz.prog zcu [x] σ K := by
  have H0 := H
  rcases H with rfl | ⟨e, rfl, he⟩
  all_goals
    refine zfz zhf fun hl => ?_
    simp only [zep, iN, bT, bF, eN, zl0]
    refine gq1 ?_
    refine zhJ H0 ?_
    refine gq1 ?_
    refine zam hl ?_
    exact hK
theorem c_hnAll (H : NoH σ x) (hK : K (.fn (.func zbJ) [] [.box σ.length 0]) (σ ++ [.box [x]])) : zn Tryz.prog zdb [x] σ K := by
  rcases H with rfl | ⟨e, rfl, he⟩
  all_goals
    refine zfT zeX.is rfl fun hl _ => zeX.goes ?_
    simp only [zff, iN, bT, bF, eN]
    refine gq1 ?_
    exact endsA hK
theorem c_hnRun {yl ba : Nat} {σ : List zb} {K : AV → List zb → Prop} (H : NoH σ x) (hb : σ[ba]? = some (.box [x])) (hK : K (.tup []) σ) : zn Tryz.prog zbJ [.fn (.yield yl) [] [], .box ba 0] σ K := by
  have H0 := H
  rcases H with rfl | ⟨e, rfl, he⟩
  all_goals
    refine zfT zek.is rfl fun hl _ => zek.goes ?_
    simp only [zeq, iN, bT, bF, eN, zl0]
    refine gq2 hb ?_
    refine zhJ H0 ?_
    refine gq1 ?_
    exact endsA hK
theorem c_hnL15all (H : NoH σ x) (hK : K (.d (.slice [])) σ) : zn Tryz.prog zlP [x] σ K := by
  have H0 := H
  rcases H with rfl | ⟨e, rfl, he⟩
  · refine zfz e_l15_all fun hl => ?_
    simp only [zmD, iN, bT, bF, eN, zl0]
    refine gq1 ?_
    refine c_hnAll (H0.app _) ?_
    obtain ⟨B, hB⟩ : ∃ B, σ ++ [zb.box [.exact []], zb.box [.d .nilp]] = B := ⟨_, rfl⟩
    have lB : B.length = σ.length + 2 := by rw [← hB]; simp
    have hBa : ∀ τ, (B ++ τ)[σ.length]? = some (.box [.exact []]) := fun τ => zk (by rw [← hB, zp]; rfl)
    have hBb : ∀ τ, (B ++ τ)[σ.length + 1]? = some (.box [.d .nilp]) := fun τ => zk (by rw [← hB, zg]; rfl)
    have hBH : ∀ τ, NoH (B ++ τ) (.d .nilp) := fun τ => by rw [← hB, List.append_assoc]; exact H0.app _
    refine gq1 ?_
    rw [hB]
    simp only [zlF]
    intro yl r vs
    refine ⟨Unit, fun _ s => ∃ Q, s = B ++ [zb.dead, Q] ∧ Q = .lrec yl r vs, (), fun _ _ _ => False, fun _ => True, ?_, ⟨_, rfl, rfl⟩, ?_, ?_, ?_, ?_⟩
    · rintro _ _ _ ⟨⟩
    · rintro _ s ⟨Q, rfl, rfl⟩
      rw [List.getElem?_append_right (by omega)]; simp
    · intro _
      exact c_hnRun (hBH _) (hBb _) ⟨(), trivial, _, rfl, rfl⟩
    · rintro _ _ _ _ ⟨⟩
    · rintro _ s _ ⟨Q, rfl, rfl⟩
      have e1 : (B ++ [zb.dead, .lrec yl r vs]).set (B.length + 1) (.lrec yl { r with state := .exhausted } vs) = B ++ [zb.dead, .lrec yl { r with state := .exhausted } vs] := by
        rw [zu]; rfl
      rw [e1]
      refine gq2 hBa ?_
      exact zka (by rw [← hB, List.append_assoc]; exact take_all _ _) (by simp [zfj, dmT, dm, dm1, zcm]) hl hK
  · refine zfz e_l15_all fun hl => ?_
    simp only [zmD, iN, bT, bF, eN, zl0]
    refine gq1 ?_
    refine c_hnAll (H0.app _) ?_
    obtain ⟨B, hB⟩ : ∃ B, σ ++ [zb.box [.exact []], zb.box [.box e 0]] = B := ⟨_, rfl⟩
    have lB : B.length = σ.length + 2 := by rw [← hB]; simp
    have hBa : ∀ τ, (B ++ τ)[σ.length]? = some (.box [.exact []]) := fun τ => zk (by rw [← hB, zp]; rfl)
    have hBb : ∀ τ, (B ++ τ)[σ.length + 1]? = some (.box [.box e 0]) := fun τ => zk (by rw [← hB, zg]; rfl)
    have hBH : ∀ τ, NoH (B ++ τ) (.box e 0) := fun τ => by rw [← hB, List.append_assoc]; exact H0.app _
    refine gq1 ?_
    rw [hB]
    simp only [zlF]
    intro yl r vs
    refine ⟨Unit, fun _ s => ∃ Q, s = B ++ [zb.dead, Q] ∧ Q = .lrec yl r vs, (), fun _ _ _ => False, fun _ => True, ?_, ⟨_, rfl, rfl⟩, ?_, ?_, ?_, ?_⟩
    · rintro _ _ _ ⟨⟩
    · rintro _ s ⟨Q, rfl, rfl⟩
      rw [List.getElem?_append_right (by omega)]; simp
    · intro _
      exact c_hnRun (hBH _) (hBb _) ⟨(), trivial, _, rfl, rfl⟩
    · rintro _ _ _ _ ⟨⟩
    · rintro _ s _ ⟨Q, rfl, rfl⟩
      have e1 : (B ++ [zb.dead, .lrec yl r vs]).set (B.length + 1) (.lrec yl { r with state := .exhausted } vs) = B ++ [zb.dead, .lrec yl { r with state := .exhausted } vs] := by
        rw [zu]; rfl
      rw [e1]
      refine gq2 hBa ?_
      exact zka (by rw [← hB, List.append_assoc]; exact take_all _ _) (by simp [zfj, dmT, dm, dm1, zcm]) hl hK
end

end Go.Proofs.YtjjchfbckfopkaaGreat
