/- Contracts: what comes next out of a pool. -/
import Derived.Test.YtnfienilahfdjaaPo2
set_option linter.all false
set_option maxRecDepth 100000
set_option linter.unusedSimpArgs false
set_option linter.unusedVariables false
namespace Go.Proofs.Ytnfienilahfdjaa
open Go.AW

theorem c_Pick_1_1 {σ : List AObj} {id : Nat} {s x : TSigned} {r : List AV} (hσ : σ[id]? = some (.box (.d (.int .i64 s.client) :: .d (.int .i64 s.time) :: r))) {K : AV → List AObj → Prop} (hK : K (.d (.bool (sameCT s x))) σ) : ACall Try.prog n_pool_Pool_Pick_1_1 [signedA x, .box id 0] σ K := by
  refine acE2 e_pool_Pool_Pick_1_1 fun hl => ?_
  have hg : ∀ τ, (σ ++ τ)[id]? = some (.box (.d (.int .i64 s.client) :: .d (.int .i64 s.time) :: r)) := fun τ => get_left hσ
  simp only [S_pool_Pool_Pick_1_1, iN, bT, bF, eN, signedA]
  cases h1 : (x.client == s.client)
  · refine gq17 (gqc0 hg h1) ?_
    refine finE hl ?_
    rw [sameCT, h1] at hK; exact hK
  · refine gq17 (gqc0 hg h1) ?_
    refine finE hl ?_
    rw [sameCT, h1] at hK; exact hK
theorem any_take {α : Type} {l : List α} {p : α → Bool} {k : Nat} {x : α} (h : l[k]? = some x) (h0 : (l.take k).any p = false) (hx : p x = false) : (l.take (k + 1)).any p = false := by
  rw [List.take_add_one, h]; simp [List.any_append, h0, hx]
theorem any_mem {α : Type} {l : List α} {p : α → Bool} {k : Nat} {x : α} (h : l[k]? = some x) (hx : p x = true) : l.any p = true := List.any_eq_true.2 ⟨x, List.mem_of_getElem? h, hx⟩
theorem c_IndexFunc_Signed {σ : List AObj} {b : List TSigned} {f : FuncId} {cap : List AV} {p : TSigned → Bool} (hb : b.length ≤ 1073741824) (hf : ∀ x ∈ b, ∀ K : AV → List AObj → Prop, K (.d (.bool (p x))) σ → ACall Try.prog f (signedA x :: cap) σ K)
    {K : AV → List AObj → Prop} (hK : ∀ r : Int, decide (r ≥ 0) = b.any p → K (.d (.int .i64 r)) σ) : ACall Try.prog n_slices_IndexFunc_api_Batch_api_Signed [.d (.slice (batchE b)), .fn (.func f) [] cap] σ K := by
  refine acE2 e_slices_IndexFunc_api_Batch_api_Signed fun hl => ?_
  simp only [S_slices_IndexFunc_api_Batch_api_Signed, iN, bT, bF, eN]
  refine gq16 ?_
  refine loopC_count b.length (fun k vs s => vs = [.d (.int .i64 k)] ∧ s = σ ∧ (b.take k).any p = false) ⟨rfl, rfl, by simp⟩ ?_
  rintro k vs s hk ⟨rfl, rfl, hno⟩
  by_cases hlt : k < b.length
  · have hd : decide ((k : Int) < (b.length : Int)) = true := by simp; omega
    have hx : b[k]? = some b[k] := by simp [hlt]
    have hfx := hf _ (List.getElem_mem hlt)
    have hgx := map_get (f := signedD) hx
    obtain ⟨x, hxe⟩ : ∃ x, b[k] = x := ⟨_, rfl⟩
    rw [hxe] at hx hgx hfx
    rw [signedA] at hfx
    refine gq18 (gqc0 hd hgx) ?_
    refine hfx _ ?_
    cases h1 : p x
    · refine gq17 (wk1 k (by omega)) ?_
      exact Again.next hlt ⟨rfl, rfl, any_take hx hno h1⟩
    · refine gq16 ?_
      refine finE hl ?_
      exact hK _ (by rw [any_mem hx h1]; simp)
  · have hd : decide ((k : Int) < (b.length : Int)) = false := by simp; omega
    refine gq17 hd ?_
    refine finE hl ?_
    rw [List.take_of_length_le (by omega)] at hno
    exact hK _ (by rw [hno]; rfl)
theorem c_ContainsFunc_Signed {σ : List AObj} {b : List TSigned} {f : FuncId} {cap : List AV} {p : TSigned → Bool} (hb : b.length ≤ 1073741824) (hf : ∀ x ∈ b, ∀ K : AV → List AObj → Prop, K (.d (.bool (p x))) σ → ACall Try.prog f (signedA x :: cap) σ K)
    {K : AV → List AObj → Prop} (hK : K (.d (.bool (b.any p))) σ) : ACall Try.prog n_slices_ContainsFunc_api_Batch_api_Signed [.d (.slice (batchE b)), .fn (.func f) [] cap] σ K := by
  refine acE2 e_slices_ContainsFunc_api_Batch_api_Signed fun hl => ?_
  simp only [S_slices_ContainsFunc_api_Batch_api_Signed, iN, bT, bF, eN]
  refine gq16 ?_
  refine c_IndexFunc_Signed hb hf fun r hr => ?_
  refine gq17 hr ?_
  refine finE hl ?_
  exact hK
theorem c_Pick_1 {σ : List AObj} {id : Nat} {s : TSigned} {b : List TSigned} {r : List AV} (hb : b.length ≤ 1073741824) (hσ : σ[id]? = some (.box (.d (.int .i64 s.client) :: .d (.int .i64 s.time) :: r))) {K : AV → List AObj → Prop} (hK : K (.d (.bool (b.any (sameCT s)))) σ) : ACall Try.prog n_pool_Pool_Pick_1 [.d (.slice (batchE b)), .box id 0] σ K := by
  refine acE2 e_pool_Pool_Pick_1 fun hl => ?_
  simp only [S_pool_Pool_Pick_1, iN, bT, bF, eN]
  refine gq16 ?_
  refine c_ContainsFunc_Signed hb (fun x _ K hK => c_Pick_1_1 hσ hK) ?_
  refine gq16 ?_
  refine finE hl ?_
  exact hK
theorem c_IndexFunc_Batch {σ : List AObj} {l : List (List TSigned)} {f : FuncId} {cap : List AV} {p : List TSigned → Bool} (hl0 : l.length ≤ 1073741824) (hf : ∀ x ∈ l, ∀ K : AV → List AObj → Prop, K (.d (.bool (p x))) σ → ACall Try.prog f (.d (.slice (batchE x)) :: cap) σ K)
    {K : AV → List AObj → Prop} (hK : ∀ r : Int, decide (r ≥ 0) = l.any p → K (.d (.int .i64 r)) σ) : ACall Try.prog n_slices_IndexFunc_api_Batch_api_Batch [.d (.slice (openE l)), .fn (.func f) [] cap] σ K := by
  refine acE2 e_slices_IndexFunc_api_Batch_api_Batch fun hl => ?_
  simp only [S_slices_IndexFunc_api_Batch_api_Batch, iN, bT, bF, eN]
  refine gq16 ?_
  refine loopC_count l.length (fun k vs s => vs = [.d (.int .i64 k)] ∧ s = σ ∧ (l.take k).any p = false) ⟨rfl, rfl, by simp⟩ ?_
  rintro k vs s hk ⟨rfl, rfl, hno⟩
  by_cases hlt : k < l.length
  · have hd : decide ((k : Int) < (l.length : Int)) = true := by simp; omega
    have hx : l[k]? = some l[k] := by simp [hlt]
    have hfx := hf _ (List.getElem_mem hlt)
    have hgx := map_get (f := fun b => [D.slice (batchE b)]) hx
    obtain ⟨x, hxe⟩ : ∃ x, l[k] = x := ⟨_, rfl⟩
    rw [hxe] at hx hgx hfx
    refine gq17 (gqc0 hd hgx) ?_
    refine hfx _ ?_
    cases h1 : p x
    · refine gq17 (wk1 k (by omega)) ?_
      exact Again.next hlt ⟨rfl, rfl, any_take hx hno h1⟩
    · refine gq16 ?_
      refine finE hl ?_
      exact hK _ (by rw [any_mem hx h1]; simp)
  · have hd : decide ((k : Int) < (l.length : Int)) = false := by simp; omega
    refine gq17 hd ?_
    refine finE hl ?_
    rw [List.take_of_length_le (by omega)] at hno
    exact hK _ (by rw [hno]; rfl)
theorem c_ContainsFunc_Batch {σ : List AObj} {l : List (List TSigned)} {f : FuncId} {cap : List AV} {p : List TSigned → Bool} (hl0 : l.length ≤ 1073741824) (hf : ∀ x ∈ l, ∀ K : AV → List AObj → Prop, K (.d (.bool (p x))) σ → ACall Try.prog f (.d (.slice (batchE x)) :: cap) σ K)
    {K : AV → List AObj → Prop} (hK : K (.d (.bool (l.any p))) σ) : ACall Try.prog n_slices_ContainsFunc_api_Batch_api_Batch [.d (.slice (openE l)), .fn (.func f) [] cap] σ K := by
  refine acE2 e_slices_ContainsFunc_api_Batch_api_Batch fun hl => ?_
  simp only [S_slices_ContainsFunc_api_Batch_api_Batch, iN, bT, bF, eN]
  refine gq16 ?_
  refine c_IndexFunc_Batch hl0 hf fun r hr => ?_
  refine gq17 hr ?_
  refine finE hl ?_
  exact hK
theorem c_poolPick {σ : List AObj} {id : Nat} {q : PQ} {op : List (List TSigned)} (hσ : σ[id]? = some (poolO q)) (hq : PoolI q) (ho : op.length ≤ 1073741824 ∧ ∀ b ∈ op, b.length ≤ 1073741824) {K : AV → List AObj → Prop} (hK : K (.d (.slice (batchE (pickF (waitF q) op)))) σ) :
    ACall Try.prog n_pool_Pool_Pick [.box id 0, .d (.slice (openE op))] σ K := by
  refine acE2 e_pool_Pool_Pick fun hl => ?_
  obtain ⟨hw1, hw2⟩ := hq.wait_ok
  simp only [S_pool_Pool_Pick, iN, bT, bF, eN, zl1]
  refine gq16 ?_
  refine c_Waiting hσ hq ?_
  obtain ⟨w, hw⟩ : ∃ w, waitF q = w := ⟨_, rfl⟩
  rw [hw] at hK hw1 hw2 ⊢
  refine gq16 ?_
  refine loopC_countW w.length (fun k vs s => vs = [.own σ.length (batchE (pickF (w.take k) op)), .d (.int .i64 k)] ∧ ∃ T, s = σ ++ (.tok 9 (pickF (w.take k) op).length :: T)) (.tok 0 [] 9 rfl (by simp) (.refl _ _)) ⟨rfl, [], rfl⟩ ?_
  rintro k vs s hk ⟨rfl, T, rfl⟩
  by_cases hlt : k < w.length
  · have hd : decide ((k : Int) < (w.length : Int)) = true := by simp; omega
    have hx : w[k]? = some w[k] := by simp [hlt]
    have hgx := map_get (f := signedD) hx
    have hps := pick_snoc hx op
    obtain ⟨x, hxe⟩ : ∃ x, w[k] = x := ⟨_, rfl⟩
    rw [hxe] at hx hgx hps
    have hl4 := pickF_len (w.take k) op
    obtain ⟨out, hout⟩ : ∃ out, pickF (w.take k) op = out := ⟨_, rfl⟩
    rw [hout] at hps hl4 ⊢
    have nx : ∀ (out' : List TSigned) (T' : List AObj), pickStep op out x = out' → Again w.length (fun k vs s => vs = [.own σ.length (batchE (pickF (w.take k) op)), .d (.int .i64 k)] ∧ ∃ T, s = σ ++ (.tok 9 (pickF (w.take k) op).length :: T)) k [.own σ.length (batchE out'), .d (.int .i64 (k + 1 : Nat))] (σ ++ (.tok 9 out'.length :: T')) := fun out' T' h =>
      Again.next hlt ⟨by rw [hps, h], T', by rw [hps, h]⟩
    cases h1 : decide ((out.length : Int) < 4)
    · refine gq18 (gqc0 hd (gqc0 hgx (gqc0 h1 (wk1 k (by omega))))) ?_
      exact nx out _ (by rw [pickStep, if_neg (by simp at h1; omega)])
    · refine gq18 (gqc0 hd (gqc0 hgx h1)) ?_
      refine c_ContainsFunc_Batch (p := fun b => b.any (sameCT x)) ho.1 (fun b hb K hK => c_Pick_1 (s := x) (ho.2 b hb) (by rw [show σ.length + (T.length + 1) = σ.length + (T.length + 1) from rfl, get_app, List.getElem?_cons_succ]; exact List.getElem?_concat_length) hK) ?_
      cases h2 : (op.any fun b => b.any (sameCT x))
      · refine gq17 (gqc0 h2 (wk1 k (by omega))) ?_
        have := nx (out ++ [x]) (T ++ [.box ((signedD x).map .d)]) (by rw [pickStep, if_pos ⟨by simp at h1; omega, by simpa [standsF] using h2⟩])
        simp only [batchE, List.map_append, List.map_cons, List.map_nil, signedD, List.length_append, List.length_cons, List.length_nil, Nat.zero_add] at this
        exact this
      · refine gq17 (gqc0 h2 (wk1 k (by omega))) ?_
        exact nx out _ (by rw [pickStep, if_neg (by simp [standsF, h2])])
  · have hd : decide ((k : Int) < (w.length : Int)) = false := by simp; omega
    have hn : k = w.length := by omega
    subst hn
    rw [List.take_length]
    refine gq17 hd ?_
    refine finE hl ?_
    exact hK

/-! a pool of those that were kept -/
end Go.Proofs.Ytnfienilahfdjaa
