/- Contracts: a pool: made, asked, put into, done. -/
import Derived.Test.YtnfienilahfdjaaRc2
import Derived.Test.YtnfienilahfdjaaSpPool
set_option linter.all false
set_option maxRecDepth 100000
set_option linter.unusedSimpArgs false
set_option linter.unusedVariables false
namespace Go.Proofs.Ytnfienilahfdjaa
open Go.AW

theorem c_poolNew {σ : List AObj} {K : AV → List AObj → Prop} (hK : K (.box σ.length 0) (σ ++ [poolO noPool])) : ACall Try.prog n_pool_New [] σ K := by
  refine acall_keep e_pool_New.is rfl (fun _ => List.range' σ.length 1) fun hl _ => e_pool_New.goes ?_
  simp only [S_pool_New, iN, bT, bF, eN, zl0]
  refine gq16 ?_
  exact endsK_prefix0 (os := [poolO noPool]) rfl rfl hl (by intro x hx; simp at hx; subst hx; exact poolO_low _ _) (.box _ _ (by simp)) hK
theorem c_poolNone {σ : List AObj} {id : Nat} {m : Bool} {cs : List AV} (hσ : σ[id]? = some (.box (.d (.bool m) :: cs))) {K : AV → List AObj → Prop} (hK : K (.d (.bool (!m))) σ) : ACall Try.prog n_pool_Pool_none [.box id 0] σ K := by
  refine acE1 e_pool_Pool_none fun hl => ?_
  simp only [S_pool_Pool_none, iN, bT, bF, eN]
  refine gq17 hσ ?_
  refine finE hl ?_
  exact hK
theorem c_poolNone0 {σ : List AObj} {K : AV → List AObj → Prop} (hK : K (.d (.bool true)) σ) : ACall Try.prog n_pool_Pool_none [.d .nilp] σ K := by
  refine acE1 e_pool_Pool_none fun hl => ?_
  simp only [S_pool_Pool_none, iN, bT, bF, eN]
  refine gq16 ?_
  refine finE hl ?_
  exact hK
theorem c_poolIs {σ : List AObj} {c : Int} {K : AV → List AObj → Prop} (hK : K (.d (.bool (decide (0 ≤ c ∧ c < 8)))) σ) : ACall Try.prog n_pool_is [.d (.int .i64 c)] σ K := by
  refine acE1 e_pool_is fun hl => ?_
  have fin : ∀ z, decide (0 ≤ c ∧ c < 8) = z → K (.d (.bool z)) σ := fun z h => h ▸ hK
  simp only [S_pool_is, iN, bT, bF, eN]
  (repeat' (first | (refine gq1 ?_; try with_reducible exact True.intro) | (refine BBL_intro (fun h => ?_) (fun h => ?_) <;> (try rw [h])) | ((with_reducible refine And.intro ?_ ?_); focus (first | omega | rfl | decide))))
  all_goals
    refine finE hl ?_
    apply fin
    (try simp only [decide_eq_true_eq, decide_eq_false_iff_not, beq_iff_eq, beq_eq_false_iff_ne, bne_iff_ne, ne_eq, Bool.not_eq_true', Bool.not_eq_false', bne_eq_false_iff_eq] at *)
    grind
theorem c_poolPut {σ : List AObj} {id : Nat} {q : PQ} {x : TSigned} (hσ : σ[id]? = some (poolO q)) (hq : PoolI q) (hx : okO x.op) {K : AV → List AObj → Prop} (hK : K (.d (.bool (canPut q x))) (σ.set id (poolO (putQ q x)))) :
    ACall Try.prog n_pool_Pool_Put [.box id 0, signedA x] σ K := by
  refine acE2 e_pool_Pool_Put fun hl => ?_
  have hlen := hq.len
  have hg : ∀ τ, (σ ++ τ)[id]? = some (.box (poolC q)) := fun τ => get_left hσ
  have no : canPut q x = false → K (.d (.bool false)) σ := fun h => by
    rw [putQ, if_neg (by simp [h]), set_same hσ, h] at hK; exact hK
  have yes : canPut q x = true → K (.d (.bool true)) (σ.set id (poolO (q.set x.client.toNat (some x)))) := fun h => by
    rw [putQ, if_pos h, h] at hK; exact hK
  clear hK
  simp only [S_pool_Pool_Put, iN, bT, bF, eN, zl1, signedA]
  refine gq16 ?_
  refine c_poolNone (hg _) ?_
  refine gq16 ?_
  refine c_CheckBatch (b := [x]) ⟨by simp, by simpa using hx⟩ ?_
  cases h1 : (checkBatchF [x] != 0)
  rotate_left
  · refine gq17 h1 ?_
    refine finE hl ?_
    exact no (by simp only [canPut]; simp at h1; simp [h1])
  have h1' : checkBatchF [x] = 0 := by simpa using h1
  obtain ⟨c0, c8, _⟩ := one_ok h1'
  have hget := hq.get c0 c8
  have hcell := poolC_get hget
  obtain ⟨o, ho⟩ : ∃ o, ofF q x.client = o := ⟨_, rfl⟩
  rw [ho] at hcell
  have hput : canPut q x = mayPut o x.time := by simp [canPut, h1', ho]
  have hs : ∀ τ y, (σ ++ τ).set id y = σ.set id y ++ τ := fun τ y => set_left hσ
  have hsp : List.take (1 + x.client.toNat) (poolC q) ++ .d (.slice [signedD x]) :: List.drop (1 + (x.client.toNat + 1)) (poolC q) = poolC (q.set x.client.toNat (some x)) := by
    rw [← Nat.add_assoc, take_set_drop (by simp [poolC, hlen]; omega)]
    exact poolC_set q _ (some x)
  have hlc : (poolC q).length = 9 := by simp [poolC, hlen]
  cases o with
  | none =>
    simp only [pcell] at hcell
    refine gq17 (gqc0 h1 (gqc0 hg hcell)) ?_
    refine c_rqClone (b := [x]) ⟨by simp, by simpa using ⟨hx.2.2.1, hx.2.2.2⟩⟩ ?_
    refine gq17 (gqc0 hg (gqc0 hs (gqc0 hlc hsp))) ?_
    exact ends_wrote (by simp [Low_d, dmT, dm, dm1, pack]) hl (poolO_low _ _) (yes (by rw [hput]; rfl))
  | some y =>
    simp only [pcell] at hcell
    cases h2 : decide (y.time ≥ x.time)
    · refine gq18 (gqc0 h1 (gqc0 hg (gqc0 hcell h2))) ?_
      refine c_rqClone (b := [x]) ⟨by simp, by simpa using ⟨hx.2.2.1, hx.2.2.2⟩⟩ ?_
      refine gq17 (gqc0 hg (gqc0 hs (gqc0 hlc hsp))) ?_
      exact ends_wrote (by simp [Low_d, dmT, dm, dm1, pack]) hl (poolO_low _ _) (yes (by rw [hput]; simp [mayPut] at h2 ⊢; omega))
    · refine gq18 (gqc0 h1 (gqc0 hg (gqc0 hcell h2))) ?_
      refine finE hl ?_
      exact no (by rw [hput]; simp [mayPut] at h2 ⊢; omega)
theorem c_poolDone {σ : List AObj} {id : Nat} {q : PQ} {c tm : Int} (hσ : σ[id]? = some (poolO q)) (hq : PoolI q) {K : AV → List AObj → Prop} (hK : K (.d (.bool (canDone q c tm))) (σ.set id (poolO (doneQ q c tm)))) :
    ACall Try.prog n_pool_Pool_Done [.box id 0, .d (.int .i64 c), .d (.int .i64 tm)] σ K := by
  refine acE3 e_pool_Pool_Done fun hl => ?_
  have hlen := hq.len
  have hσ' : σ[id]? = some (.box (poolC q)) := hσ
  have no : canDone q c tm = false → K (.d (.bool false)) σ := fun h => by
    rw [doneQ, if_neg (by simp [h]), set_same hσ, h] at hK; exact hK
  have yes : canDone q c tm = true → K (.d (.bool true)) (σ.set id (poolO (q.set c.toNat none))) := fun h => by
    rw [doneQ, if_pos h, h] at hK; exact hK
  clear hK
  simp only [S_pool_Pool_Done, iN, bT, bF, eN]
  refine gq16 ?_
  refine c_poolNone hσ ?_
  refine gq16 ?_
  refine c_poolIs ?_
  by_cases hc : 0 ≤ c ∧ c < 8
  · have hget := hq.get hc.1 hc.2
    have hcell := poolC_get hget
    obtain ⟨o, ho⟩ : ∃ o, ofF q c = o := ⟨_, rfl⟩
    rw [ho] at hcell
    have hcan : canDone q c tm = mayDone o tm := by simp [canDone, ho]
    rw [decide_eq_true hc]
    have hlc : (poolC q).length = 9 := by simp [poolC, hlen]
    have hsp : List.take (1 + c.toNat) (poolC q) ++ .exact [] :: List.drop (1 + (c.toNat + 1)) (poolC q) = poolC (q.set c.toNat none) := by
      rw [← Nat.add_assoc, take_set_drop (by omega)]
      exact poolC_set q _ none
    cases o with
    | none =>
      simp only [pcell] at hcell
      refine gq17 (gqc0 hσ' hcell) ?_
      refine finE hl ?_
      exact no (by rw [hcan]; rfl)
    | some y =>
      simp only [pcell] at hcell
      cases h2 : decide (y.time > tm)
      · refine gq18 (gqc0 hσ' (gqc0 hcell (gqc0 h2 (gqc0 hlc hsp)))) ?_
        exact ends_wrote0 (by simp [Low_d, dmT, dm, dm1, pack]) hl (poolO_low _ _) (yes (by rw [hcan]; simp [mayDone] at h2 ⊢; omega))
      · refine gq18 (gqc0 hσ' (gqc0 hcell h2)) ?_
        refine finE hl ?_
        exact no (by rw [hcan]; simp [mayDone] at h2 ⊢; omega)
  · rw [decide_eq_false hc]
    refine gq16 ?_
    refine finE hl ?_
    exact no (by simp [canDone, ofF, hc, mayDone])
end Go.Proofs.Ytnfienilahfdjaa
