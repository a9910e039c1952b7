/- Contracts: a header that the document fixes. -/
import Derived.Test.YthpnelbciibjeaaSpRqP
import Derived.Test.YthpnelbciibjeaaBk3
import Derived.Test.YthpnelbciibjeaaId3
set_option linter.all false
set_option maxRecDepth 100000
set_option linter.unusedSimpArgs false
set_option linter.unusedVariables false
namespace Go.Proofs.Ythpnelbciibjeaa
open Go.AW

def lv9L : List (List UInt8) := (genF []).2.2
abbrev lv9H : zfc := ⟨0, 0, 0, 1, 2⟩
theorem lv9_gen : genF [] = (lv9H, 0, lv9L) := by
  have h1 : (genF []).1 = lv9H := by decide +kernel
  have h2 : (genF []).2.1 = 0 := by decide +kernel
  rw [← h1, ← h2]; rfl
theorem lv9_I : TabI lv9L := ⟨by decide +kernel, by decide +kernel, by decide +kernel⟩
def lv9X : ExecR := exec0 lv9L zcI lv9H []
theorem lv9_ok : ExOk lv9L zcI lv9H [] := ⟨by decide +kernel, by decide +kernel, by decide +kernel, by decide +kernel, by decide +kernel, by decide +kernel⟩
theorem lv9_h : lv9X.h.seq = 1 ∧ lv9X.h.state = 2 ∧ zcK lv9X.p = [] := ⟨by decide +kernel, by decide +kernel, rfl⟩
theorem lv9_J : TabI lv9X.L := ⟨by decide +kernel, by decide +kernel, by decide +kernel⟩
theorem lv9_chain : chainF lv9X.L [lv9H, lv9X.h] = true ∧ chainF lv9X.L [lv9X.h, lv9H] = false := ⟨by decide +kernel, by decide +kernel⟩
section

variable {σ : List zc} {K : AV → List zc → Prop}

theorem c_live09 (hK : K (.d (.bool true)) σ) : zj Try.prog zjZ [] σ K := by
  refine acE0 e_l09_live fun hl => ?_
  simp only [zno, iN, bT, bF, eN]
  refine gq1 ?_
  refine zhQ ?_
  have hT0 := zli σ [] []
  have hp0 := zmM σ [] lv9L []
  simp only [List.append_nil] at hT0 hp0
  refine gq1 ?_
  refine c_blGenesis hT0 .nil ?_
  rw [lv9_gen]
  rw [hp0]
  have hT1 := zli σ lv9L []
  simp only [List.append_nil] at hT1
  obtain ⟨S, hS⟩ : ∃ S, σ ++ zns σ.length lv9L = S := ⟨_, rfl⟩
  have hl1 : S.length = σ.length + 3 := by rw [← hS]; simp
  have hpre : ∀ j x, σ[j]? = some x → S[j]? = some x := fun j x h => by rw [← hS]; exact zf h
  rw [hS] at hT1 ⊢
  refine gq1 ?_
  refine zoe fun hP => ?_
  have el : ∀ X : zc, (S ++ [X]).length = S.length + 1 := fun X => by simp
  rw [el] at hP ⊢
  have xS : ∀ a τ, (S ++ a :: τ)[S.length]? = some a := fun a τ => zr ..
  have k5 : zcn [AV.d (.int .i64 0), AV.d (.int .i64 0), AV.d (.int .i64 0), AV.d (.int .i64 1), AV.d (.int .i64 2)] [AV.d (.int .i64 0), AV.d (.int .i64 0), AV.d (.int .i64 0), AV.d (.int .i64 1), AV.d (.int .i64 2)] = some true := by decide +kernel
  refine gq2 (zg (show ((0 : Int) != 0) = false from rfl) (zg k5 xS)) ?_
  rw [List.append_assoc] at hP
  obtain ⟨O, hO⟩ : ∃ O : Nat → Prop, (fun j => j = S.length + 1 + 1 ∨ j = S.length + 1) = O := ⟨_, rfl⟩
  have hOl : ∀ j, O j → S.length + 1 ≤ j := fun j hj => by rw [← hO] at hj; omega
  rw [hO] at hP
  have hLast : zmn zcI.last := fun a ha => by
    have := List.eq_of_mem_replicate ha
    subst this
    simp
  refine c_blExecute (h := lv9H) (b := []) (hT1.app _) lv9_I hP .none hLast (fun h => by have := hOl _ h; omega) (fun h => by have := hOl _ h; omega) (fun h => by have := hOl _ h; omega) (by simp) (by simp) lv9_ok fun S2 O2 N hP2 hT2 _ hl2 hrest hN => ?_
  rw [show exec0 lv9L zcI lv9H [] = lv9X from rfl] at hT2 ⊢
  obtain rfl : N = [] := List.length_eq_zero_iff.1 hN
  have gS : S2[S.length]? = some (boxH lv9H) := hrest _ _ (zr ..) (by omega) (by omega) (by omega) (fun h => by have := hOl _ h; omega)
  have hpre2 : ∀ j x, σ[j]? = some x → S2[j]? = some x := fun j x h => by
    have := zl h
    exact hrest _ _ (zf (hpre j x h)) (by omega) (by omega) (by omega) (fun h => by have := hOl _ h; omega)
  obtain ⟨h1, h2, h3⟩ := lv9_h
  obtain ⟨h4, h5⟩ := lv9_chain
  have hJ := lv9_J
  rw [h3]
  obtain ⟨X, hX⟩ : ∃ X, lv9X.h = X := ⟨_, rfl⟩
  obtain ⟨LX, hLX⟩ : ∃ LX, lv9X.L = LX := ⟨_, rfl⟩
  rw [hX] at h1 h2 h4 h5 ⊢
  rw [hLX] at h4 h5 hT2 hJ
  have gS' : ∀ τ, (S2 ++ τ)[S.length]? = _ := fun τ => zf gS
  have xS2 : ∀ a τ, (S2 ++ a :: τ)[S2.length]? = some a := fun a τ => zr ..
  have q1 : (X.seq == 1) = true := by rw [h1]; rfl
  have q2 : (X.state == 2) = true := by rw [h2]; rfl
  refine gq24 (zg (show ((0 : Int) == 0) = true from rfl) (zg q1 (zg q2 (zg gS' (zg xS2 (show (((0 : Nat) : Int) == 0) = true from rfl)))))) ?_
  refine c_blChain (l := [lv9H, X]) (hT2.app _) hJ (by simp) ?_
  rw [h4]
  refine gq2 (zg gS' xS2) ?_
  refine c_blChain (l := [X, lv9H]) (hT2.app _) hJ (by simp) ?_
  rw [h5]
  refine gq1 ?_
  exact ends_takeN (take_all fun j x h => zf (hpre2 j x h)) (by simp [zfO, dmT, dm, dm1, zdg]) hl hK
end


def NoX (σ : List zc) (x : AV) : Prop := x = .d .nilp ∨ ∃ e, x = .box e 0 ∧ σ[e]? = some (.box [.exact [], .d .nilmap])
theorem NoX.app {σ : List zc} {x : AV} (h : NoX σ x) (τ : List zc) : NoX (σ ++ τ) x := h.imp id fun ⟨e, h1, h2⟩ => ⟨e, h1, zf h2⟩
def NoY (σ : List zc) (x : AV) : Prop := x = .d .nilp ∨ ∃ e cs, x = .box e 0 ∧ σ[e]? = some (.box (.d .nilmap :: cs))
theorem NoY.app {σ : List zc} {x : AV} (h : NoY σ x) (τ : List zc) : NoY (σ ++ τ) x := h.imp id fun ⟨e, cs, h1, h2⟩ => ⟨e, cs, h1, zf h2⟩
abbrev hdrL (x : zfc) : List AV := [.d (.int .i64 x.seq), .d (.int .i64 x.prev), .d (.int .i64 x.batch), .d (.int .i64 x.root), .d (.int .i64 x.state)]
section

variable {σ : List zc} {x y : AV} {K : AV → List zc → Prop}

theorem c_xNone (H : NoX σ x) (hK : K (.d (.bool true)) σ) : zj Try.prog zaL [x] σ K := by
  refine zhr zfB fun hl => ?_
  simp only [zdO, iN, bT, bF, eN]
  rcases H with rfl | ⟨e, rfl, he⟩
  · refine gq1 ?_
    refine zbD hl ?_
    exact hK
  · refine gq2 he ?_
    refine zbD hl ?_
    exact hK
theorem c_xClone (H : NoX σ x) (hK : K (.d .nilp) σ) : zj Try.prog zbo [x] σ K := by
  have H0 := H
  rcases H with rfl | ⟨e, rfl, he⟩
  all_goals
    refine zhr zdl fun hl => ?_
    simp only [zdo, iN, bT, bF, eN]
    refine gq1 ?_
    refine c_xNone H0 ?_
    refine gq1 ?_
    refine zbD hl ?_
    exact hK
theorem zoc (H : NoX σ x) (hK : K (.d (.bool false)) σ) : zj Try.prog zbQ [x] σ K := by
  have H0 := H
  rcases H with rfl | ⟨e, rfl, he⟩
  all_goals
    refine zhr zhl fun hl => ?_
    simp only [zfH, iN, bT, bF, eN]
    refine gq1 ?_
    refine c_xClone H0 ?_
    refine gq1 ?_
    refine zbD hl ?_
    exact hK
theorem c_xDigest {h : zfc} (H : NoX σ x) (hK : K (.tup [.d (.int .i64 0), .d (.int .i64 2)]) σ) : zj Try.prog zcV [x, .agg (hdrL h)] σ K := by
  have H0 := H
  rcases H with rfl | ⟨e, rfl, he⟩
  all_goals
    refine zla zit fun hl => ?_
    simp only [zfN, iN, bT, bF, eN]
    refine gq1 ?_
    refine zoc (H0.app _) ?_
    refine gq1 ?_
    refine zbD hl ?_
    exact hK
theorem c_xGenesis (H : NoX σ x) (hK : K (.tup [.agg (hdrL ⟨0, 0, 0, 0, 0⟩), .d (.int .i64 2)]) σ) : zj Try.prog zcw [x] σ K := by
  have H0 := H
  rcases H with rfl | ⟨e, rfl, he⟩
  all_goals
    refine zhr zhm fun hl => ?_
    simp only [zfv, iN, bT, bF, eN]
    refine gq1 ?_
    refine zoc (H0.app _) ?_
    refine gq1 ?_
    refine zbD hl ?_
    exact hK
theorem zod {z : AV} (H : NoX σ x) (hK : K (.d (.bool false)) σ) : zj Try.prog zcD [x, z] σ K := by
  have H0 := H
  rcases H with rfl | ⟨e, rfl, he⟩
  all_goals
    refine zla zjt fun hl => ?_
    simp only [zgD, iN, bT, bF, eN]
    refine gq1 ?_
    refine zoc H0 ?_
    refine gq1 ?_
    refine zbD hl ?_
    exact hK
abbrev exNo : AV := .tup [.agg (hdrL ⟨0, 0, 0, 0, 0⟩), .d (.slice []), .d (.slice []), .d (.int .i64 2)]
theorem c_ex1 (hK : K (.tup [.agg (hdrL ⟨0, 0, 0, 0, 0⟩), .d (.slice []), .d (.slice []), .d (.int .i64 2)]) σ) : zj Try.prog zaC [.d (.int .i64 2)] σ K := by
  refine zhr zki fun hl => ?_
  simp only [zgm, iN, bT, bF, eN]
  refine gq1 ?_
  refine zbD hl ?_
  exact hK
theorem c_xExecute {h : zfc} {t : Nat} {es : List (List D)} (H : NoX σ x) (hK : K exNo σ) : zj Try.prog zal [x, .box t 0, .agg (hdrL h), .d (.slice es)] σ K := by
  have H0 := H
  rcases H with rfl | ⟨e, rfl, he⟩
  all_goals
    refine acE4 zdI fun hl => ?_
    simp only [zdP, iN, bT, bF, eN, zl0]
    refine gq1 ?_
    refine zoc (H0.app _) ?_
    refine gq1 ?_
    refine c_ex1 ?_
    refine gq1 ?_
    refine zbD hl ?_
    exact hK
theorem c_yNone (H : NoY σ x) (hK : K (.d (.bool true)) σ) : zj Try.prog zY [x] σ K := by
  refine zhr zeG fun hl => ?_
  simp only [zcP, iN, bT, bF, eN]
  rcases H with rfl | ⟨e, cs, rfl, he⟩
  · refine gq1 ?_
    refine zbD hl ?_
    exact hK
  · refine gq2 he ?_
    refine zbD hl ?_
    exact hK
theorem c_yClone (H : NoY σ x) (hK : K (.d .nilp) σ) : zj Try.prog zbw [x] σ K := by
  have H0 := H
  rcases H with rfl | ⟨e, cs, rfl, he⟩
  all_goals
    refine zhr zcx fun hl => ?_
    simp only [zcz, iN, bT, bF, eN]
    refine gq1 ?_
    refine c_yNone H0 ?_
    refine gq1 ?_
    refine zbD hl ?_
    exact hK
theorem c_madeT {id m t : Nat} (hT : zbr σ id m t []) (hK : K (.d (.bool true)) σ) : zj Try.prog zbQ [.box id 0] σ K := by
  refine zhr zhl fun hl => ?_
  simp only [zfH, iN, bT, bF, eN]
  refine gq1 ?_
  refine zog hT .nil (by simp) (by simp) ?_
  refine gq1 ?_
  refine zbD hl ?_
  exact hK
theorem zkk {h : zfc} {id m t : Nat} {es : List (List D)} (hT : zbr σ id m t []) (H : NoY σ x) (hK : K exNo σ) : zj Try.prog zal [.box id 0, x, .agg (hdrL h), .d (.slice es)] σ K := by
  have H0 := H
  rcases H with rfl | ⟨e, cs, rfl, he⟩
  all_goals
    refine acE4 zdI fun hl => ?_
    simp only [zdP, iN, bT, bF, eN, zl0]
    refine gq1 ?_
    refine c_madeT (hT.app _) ?_
    refine gq1 ?_
    refine c_yClone (H0.app _) ?_
    refine gq1 ?_
    refine c_ex1 ?_
    refine gq1 ?_
    refine zbD hl ?_
    exact hK
end

end Go.Proofs.Ythpnelbciibjeaa
