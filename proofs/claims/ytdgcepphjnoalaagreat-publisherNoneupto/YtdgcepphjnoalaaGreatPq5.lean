/- Contracts: what the law begins with. -/
import Derived.Test.YtdgcepphjnoalaaGreatPq4
set_option linter.all false
set_option maxRecDepth 100000
set_option linter.unusedSimpArgs false
set_option linter.unusedVariables false
namespace Go.Proofs.YtdgcepphjnoalaaGreat
open Go.AW

abbrev repM (a n : Int) : zfc := { zfQ with kind := 5, src := a, client := 2, time := 1, roff := n }
theorem zpE (a n : Int) : zdy (repM a n) := by
  obtain ⟨n1, n2, n3, n4, n5, n6, n7, n8, n9, n10⟩ := znU
  constructor <;> assumption
theorem withS_small {m : zfc} {s : zS} (h : zdy m) : zdy (withS m s) := by
  obtain ⟨h1, h2, h3, h4, h5, h6, h7, h8, h9, h10⟩ := h
  exact ⟨h1, h2, h3, h4, h5, h6, h7, h8, h9, h10⟩
theorem sealR_ok {L : List (List UInt8)} {G : List zS} {m : zfc} (h : (zgS L G m).e = 0) : (zgS L G m).m = withS m (sgnS L m.src (ziw m)) := by
  unfold zgS at h ⊢
  split
  · rename_i h1; rw [if_pos h1] at h; exact absurd h h1
  · rename_i h1
    rw [if_neg h1] at h
    split
    · rename_i h2; rw [if_pos h2] at h; exact absurd h h2
    · rfl
section

variable {σ : List zc} {K : AV → List zc → Prop}

theorem c_b1 {i : TGi} {L : List (List UInt8)} {G : List zS} {a n : Int} {c d m q sn : Nat} {s : zt} {ticks : Int} {la : List (List D)} {many : Int} {sy : List (Int × Int × Int)}
    (h : TG i σ L G) (hL : znL L) (hg : G.length ≤ 1000000) (hc : σ[c]? = some (.box [.box i.id 0])) (hd : σ[d]? = some (.box [.box i.id2 0])) (hm : σ[m]? = some (.box [.box q 0]))
    (hq : σ[q]? = some (.box (zlT 1 2 i.id i.id2 1 [s] (.map sn) ticks la many))) (hs : σ[sn]? = some (.map (zeW sy))) (hb : sy.length ≤ 900000) (hmn : 0 ≤ many ∧ many ≤ 1000000) (ha : a < 4)
    (hk1 : c ≠ i.id ∧ c ≠ i.m ∧ c ≠ i.t ∧ c ≠ i.id2 ∧ c ≠ i.m2 ∧ c ≠ i.t2) (hk2 : d ≠ i.id ∧ d ≠ i.m ∧ d ≠ i.t ∧ d ≠ i.id2 ∧ d ≠ i.m2 ∧ d ≠ i.t2) (hk3 : m ≠ i.id ∧ m ≠ i.m ∧ m ≠ i.t ∧ m ≠ i.id2 ∧ m ≠ i.m2 ∧ m ≠ i.t2)
    (hk4 : q ≠ i.id ∧ q ≠ i.m ∧ q ≠ i.t ∧ q ≠ i.id2 ∧ q ≠ i.m2 ∧ q ≠ i.t2) (hk5 : sn ≠ i.id ∧ sn ≠ i.m ∧ sn ≠ i.t ∧ sn ≠ i.id2 ∧ sn ≠ i.m2 ∧ sn ≠ i.t2)
    (he : (zgS L G (repM a n)).e = 0) (hL2 : znL (zgS L G (repM a n)).L) (hg2 : (zgS L G (repM a n)).G.length ≤ 1000000) (hv : zkc (zgS L G (repM a n)).L (zgS L G (repM a n)).G (zgS L G (repM a n)).m = true)
    (hK0 : (zqD (zfB sy a 0 n) 0 n : Int) < 2 → ∀ S, TG i S (zgS L G (repM a n)).L (zgS L G (repM a n)).G → S[q]? = some (.box (zlT 1 2 i.id i.id2 1 [s] (.map sn) ticks la many)) → S[sn]? = some (.map (zeW (zfB sy a 0 n))) → (∀ (j : Nat) (y : zc), j ≠ q → j ≠ sn → (j ≠ i.id ∧ j ≠ i.m ∧ j ≠ i.t ∧ j ≠ i.id2 ∧ j ≠ i.m2 ∧ j ≠ i.t2) → σ[j]? = some y → S[j]? = some y) → K (.d (.bool false)) S)
    (hK1 : ¬ (zqD (zfB sy a 0 n) 0 n : Int) < 2 → ∀ S, S[q]? = some (.box (zlT 1 2 i.id i.id2 1 [] (.d .nilmap) ticks [ansD s 0 n] (many + 1))) → (∀ (j : Nat) (y : zc), j ≠ q → j ≠ sn → (j ≠ i.id ∧ j ≠ i.m ∧ j ≠ i.t ∧ j ≠ i.id2 ∧ j ≠ i.m2 ∧ j ≠ i.t2) → σ[j]? = some y → S[j]? = some y) → K (.d (.bool true)) S) :
    zl Tryz.prog zdQ [.d (.int .i64 a), .d (.int .i64 n), .box c 0, .box d 0, .box m 0] σ K := by
  refine zoR zlA.is rfl fun hl _ => zlA.goes ?_
  simp only [zlN, iN, bT, bF, eN, zl3]
  have hM := sealR_ok he
  obtain ⟨R, hR⟩ : ∃ R, zgS L G (repM a n) = R := ⟨_, rfl⟩
  have hms : zdy R.m := by rw [← hR, hM]; exact withS_small (zpE a n)
  have k1 : R.m.kind = 5 := by rw [← hR, hM]
  have k2 : R.m.client = 2 := by rw [← hR, hM]
  have k3 : R.m.time = 1 := by rw [← hR, hM]
  have k4 : R.m.src = a := by rw [← hR, hM]
  have k5 : R.m.rerr = 0 := by rw [← hR, hM]; rfl
  have k6 : R.m.roff = n := by rw [← hR, hM]
  refine zbi (zj hc hd) ?_
  refine c_auSeal5 (m := repM a n) h hL (by omega) (zpE a n) rfl ?_
  rw [hR] at he hL2 hg2 hv hK0 ⊢
  rw [he]
  obtain ⟨S, hS⟩ : ∃ S, zfP i σ R.L R.G = S := ⟨_, rfl⟩
  have hT : TG i S R.L R.G := by rw [← hS]; exact h.put _ _
  have c' : ∀ τ, (S ++ τ)[c]? = some (.box [.box i.id 0]) := fun τ => zy (by rw [← hS, TG.other hk1]; exact hc)
  have d' : ∀ τ, (S ++ τ)[d]? = some (.box [.box i.id2 0]) := fun τ => zy (by rw [← hS, TG.other hk2]; exact hd)
  have m' : ∀ τ, (S ++ τ)[m]? = some (.box [.box q 0]) := fun τ => zy (by rw [← hS, TG.other hk3]; exact hm)
  have q' : ∀ τ, (S ++ τ)[q]? = some (.box (zlT 1 2 i.id i.id2 1 [s] (.map sn) ticks la many)) := fun τ => zy (by rw [← hS, TG.other hk4]; exact hq)
  have s' : ∀ τ, (S ++ τ)[sn]? = some (.map (zeW sy)) := fun τ => zy (by rw [← hS, TG.other hk5]; exact hs)
  rw [hS]
  refine zbi (zj m' (show ((0 : Int) == 0) = true from rfl)) ?_
  obtain ⟨X, hX⟩ : ∃ X, zc.box (msgL R.m) = X := ⟨_, rfl⟩
  rw [hX]
  have nes := hT.ne
  have qs : q ≠ sn := fun e => by rw [e, hs] at hq; cases hq
  have hsl := zbR (s' [X])
  have hql := zbR (q' [X])
  have kp : ∀ (j : Nat) (y : zc), (j ≠ i.id ∧ j ≠ i.m ∧ j ≠ i.t ∧ j ≠ i.id2 ∧ j ≠ i.m2 ∧ j ≠ i.t2) → σ[j]? = some y → (S ++ [X])[j]? = some y := fun j y hj hy => zy (by rw [← hS, TG.other hj]; exact hy)
  refine c_pTake (m := R.m) (q' _) (s' _) hb (fun τ K hk => ?_) k1 k2 k3 (by omega) (by rw [k4]; omega) hmn (fun hlt => ?_) fun hlt => ?_
  · refine c_auValid5 (M := R.m) ((hT.app _).app _).tab ((hT.app _).app _).led hL2 (by omega) hms k1 ?_
    rw [hv]; exact hk
  · rw [k4, k5, k6] at hlt ⊢
    refine zaP ?_
    refine endsA (hK0 hlt _ ?_ ?_ ?_ fun j y b1 b2 b3 hy => ?_)
    · have h2 := hT.app [X]
      refine ⟨⟨?_, ?_, ?_⟩, ⟨?_, ?_, ?_⟩, h2.n1, h2.n2⟩
      · rw [List.getElem?_set_ne hk5.1]; exact h2.tab.box
      · rw [List.getElem?_set_ne hk5.2.1]; exact h2.tab.map
      · rw [List.getElem?_set_ne hk5.2.2.1]; exact h2.tab.tok
      · rw [List.getElem?_set_ne hk5.2.2.2.1]; exact h2.led.box
      · rw [List.getElem?_set_ne hk5.2.2.2.2.1]; exact h2.led.map
      · rw [List.getElem?_set_ne hk5.2.2.2.2.2]; exact h2.led.tok
    · rw [List.getElem?_set_ne (Ne.symm qs)]; exact q' _
    · exact List.getElem?_set_self hsl
    · rw [List.getElem?_set_ne (Ne.symm b2)]; exact kp j y b3 hy
  · rw [k4, k5, k6] at hlt ⊢
    refine zaP ?_
    refine endsA (hK1 hlt _ (List.getElem?_set_self (by simpa using hql)) fun j y b1 b2 b3 hy => ?_)
    rw [List.getElem?_set_ne (Ne.symm b1), List.getElem?_set_ne (Ne.symm b2)]; exact kp j y b3 hy
end

end Go.Proofs.YtdgcepphjnoalaaGreat
