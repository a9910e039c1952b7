/- Contracts: which batches are the same; a batch's clone whose cells may be written. -/
import Derived.Test.YtnfienilahfdjaaMu1
import Derived.Test.YtnfienilahfdjaaMu0
import Derived.Test.YtnfienilahfdjaaRc2
set_option linter.all false
set_option maxRecDepth 100000
set_option linter.unusedSimpArgs false
set_option linter.unusedVariables false
namespace Go.Proofs.Ytnfienilahfdjaa
open Go.AW

def cells9 (x : TSigned) (c : AV) : List AV := [.d (.int .i64 x.client), .d (.int .i64 x.time), .d (.int .i64 x.op.kind), .d (.str x.op.topic), .d (.str x.op.group), .d (.int .i64 x.op.offset), c, .d (.int .i64 x.key), .d (.int .i64 x.dig)]
def BatchX (n : Nat) (s : List AObj) (c : AV) (b : List TSigned) : Prop :=
  ∃ t g Ls, n ≤ t ∧ c = .rsl t g 9 0 b.length ∧ s[t]? = some (.row g 9 (List.flatten Ls)) ∧ Ls.length = b.length ∧ ∀ (i : Nat) (x : TSigned), b[i]? = some x → ∃ rc, Ls[i]? = some (cells9 x rc) ∧ RecsX n s rc x.op.recs
theorem flat_len {Ls : List (List AV)} (h : ∀ l ∈ Ls, l.length = 9) : (List.flatten Ls).length = Ls.length * 9 := by
  induction Ls with
  | nil => rfl
  | cons l r ih =>
    have h1 := h l (by simp)
    have h2 := ih fun x hx => h x (by simp [hx])
    simp only [List.flatten_cons, List.length_append, List.length_cons]; omega
theorem flat_nine {n : Nat} {s : List AObj} {Ls : List (List AV)} {b : List TSigned} (h1 : Ls.length = b.length) (h2 : ∀ (i : Nat) (x : TSigned), b[i]? = some x → ∃ rc, Ls[i]? = some (cells9 x rc) ∧ RecsX n s rc x.op.recs) : ∀ l ∈ Ls, l.length = 9 := by
  intro l hl
  obtain ⟨i, hi⟩ := List.mem_iff_getElem?.1 hl
  have := lt_len hi
  obtain ⟨rc, h3, _⟩ := h2 i (b[i]'(by omega)) (List.getElem?_eq_getElem _)
  rw [hi] at h3; cases h3; rfl
theorem c_rqCloneM {σ : List AObj} {b : List TSigned} (hb : smallB b) {K : AV → List AObj → Prop}
    (hK : ∀ τ c, BatchX σ.length (σ ++ τ) c b → K c (σ ++ τ)) : ACall Try.prog n_request_Clone [.d (.slice (batchE b))] σ K := by
  refine acall_keep em_request_Clone.is rfl (fun s => List.range' σ.length (s.length - σ.length)) fun hl _ => em_request_Clone.goes ?_
  obtain ⟨hb1, hb2⟩ := hb
  simp only [Sm_request_Clone, iN, bT, bF, eN, zl1]
  refine gq16 ?_
  refine loopC_countW b.length (fun j vs s => ∃ Ls T, vs = [.rsl σ.length j 9 0 j, .d (.int .i64 j)] ∧ s = σ ++ (.row j 9 (List.flatten Ls) :: T) ∧ Ls.length = j ∧ (∀ x ∈ T, LowO s.length x) ∧ ∀ (i : Nat) (x : TSigned), b[i]? = some x → i < j → ∃ rc, Ls[i]? = some (cells9 x rc) ∧ RecsX (σ.length + 1) s rc x.op.recs)
    (.row 0 9 rfl (by omega) (.refl _ _)) ⟨[], [], by simp, by simp, rfl, by simp, fun i r _ h => by omega⟩ ?_
  rintro j vs s hj ⟨Ls, T, rfl, rfl, hLs, hT, hX⟩
  have hX' : ∀ (i : Nat) (x : TSigned), (b.take j)[i]? = some x → ∃ rc, Ls[i]? = some (cells9 x rc) ∧ RecsX (σ.length + 1) (σ ++ (.row j 9 (List.flatten Ls) :: T)) rc x.op.recs := fun i x hx => by
    rw [List.getElem?_take] at hx
    split at hx
    · rename_i h; exact hX i x hx h
    · cases hx
  have hnine := flat_nine (by rw [List.length_take]; omega) hX'
  have hfl := flat_len hnine
  by_cases hlt : j < b.length
  · have hd : decide ((j : Int) < (b.length : Int)) = true := by simp; omega
    have hx : b[j]? = some b[j] := by simp [hlt]
    have hgx := map_get (f := signedD) hx
    obtain ⟨hr1, hr2⟩ := hb2 _ (List.getElem_mem hlt)
    obtain ⟨x, hxe⟩ : ∃ x, b[j] = x := ⟨_, rfl⟩
    rw [hxe] at hx hgx hr1 hr2
    obtain ⟨S, hS⟩ : ∃ S, σ ++ (AObj.row j 9 (List.flatten Ls) :: T) = S := ⟨_, rfl⟩
    have hSrow : ∀ τ, (S ++ τ)[σ.length]? = some (.row j 9 (List.flatten Ls)) := fun τ => get_left (by rw [← hS, get_app0]; rfl)
    have hSset : ∀ X τ, (S ++ τ).set σ.length X = S.set σ.length X ++ τ := fun X τ => set_left (x := .row j 9 (List.flatten Ls)) (by rw [← hS, get_app0]; rfl)
    have hSlen : ∀ X, S.length = (S.set σ.length X).length := fun X => by simp
    rw [hS]
    refine gq18 (gqc0 hd hgx) ?_
    refine c_opCloneM (o := x.op) hr1 hr2 fun τ c hRX hτ => ?_
    obtain ⟨u, gu, hu⟩ : ∃ u gu, c = .rsl u gu 1 0 x.op.recs.length := by
      obtain ⟨u, gu, _, _, h, _⟩ := hRX
      exact ⟨u, gu, h⟩
    have hlow := hRX.low (m := (S ++ [AObj.box [.d (.int .i64 x.client), .d (.int .i64 x.time), .d (.int .i64 x.op.kind), .d (.str x.op.topic), .d (.str x.op.group), .d (.int .i64 x.op.offset), .d (.slice (recsE x.op.recs)), .d (.int .i64 x.key), .d (.int .i64 x.dig)]] ++ τ).length) (Nat.le_refl _)
    subst hu
    refine gq26 (gqc0 hd (gqc0 hSrow (gqc0 hSset (gqc0 hfl (gqc0 hLs (wk1 j (by omega))))))) ?_
    have h9 : [AV.d (D.int .i64 x.client), .d (.int .i64 x.time), .d (.int .i64 x.op.kind), .d (.str x.op.topic), .d (.str x.op.group), .d (.int .i64 x.op.offset), .rsl u gu 1 0 x.op.recs.length, .d (.int .i64 x.key), .d (.int .i64 x.dig)] = cells9 x (.rsl u gu 1 0 x.op.recs.length) := rfl
    rw [h9]
    have hlow9 : ∀ m, (S ++ [AObj.box [.d (.int .i64 x.client), .d (.int .i64 x.time), .d (.int .i64 x.op.kind), .d (.str x.op.topic), .d (.str x.op.group), .d (.int .i64 x.op.offset), .d (.slice (recsE x.op.recs)), .d (.int .i64 x.key), .d (.int .i64 x.dig)]] ++ τ).length ≤ m → ∀ c ∈ cells9 x (.rsl u gu 1 0 x.op.recs.length), Low m c := fun m hm c hc => by
      simp only [cells9, List.mem_cons, List.not_mem_nil, or_false] at hc
      rcases hc with rfl | rfl | rfl | rfl | rfl | rfl | rfl | rfl | rfl
      all_goals first
        | exact .d _
        | exact low_mono hlow hm
    have hRX2 := ((hRX.set (k := S.length) (by simp) (.box (cells9 x (.rsl u gu 1 0 x.op.recs.length)))).set (k := σ.length) (by rw [← hS]; simp) (.row (j + 1) 9 (List.flatten Ls ++ cells9 x (.rsl u gu 1 0 x.op.recs.length)))).app [.row 0 9 (cells9 x (.rsl u gu 1 0 x.op.recs.length))]
    rw [show S ++ [AObj.box [.d (.int .i64 x.client), .d (.int .i64 x.time), .d (.int .i64 x.op.kind), .d (.str x.op.topic), .d (.str x.op.group), .d (.int .i64 x.op.offset), .d (.slice (recsE x.op.recs)), .d (.int .i64 x.key), .d (.int .i64 x.dig)]] ++ τ = S ++ (AObj.box [.d (.int .i64 x.client), .d (.int .i64 x.time), .d (.int .i64 x.op.kind), .d (.str x.op.topic), .d (.str x.op.group), .d (.int .i64 x.op.offset), .d (.slice (recsE x.op.recs)), .d (.int .i64 x.key), .d (.int .i64 x.dig)] :: τ) from by simp, set_app0, List.set_cons_zero, hSset] at hRX2
    have hST : S.set σ.length (.row (j + 1) 9 (List.flatten Ls ++ cells9 x (.rsl u gu 1 0 x.op.recs.length))) = σ ++ (.row (j + 1) 9 (List.flatten Ls ++ cells9 x (.rsl u gu 1 0 x.op.recs.length)) :: T) := by
      rw [← hS, set_app0]; rfl
    have hSl : S.length = σ.length + (T.length + 1) := by rw [← hS]; simp
    have hSR : ∀ i y, b[i]? = some y → i < j → ∃ rc, Ls[i]? = some (cells9 y rc) ∧ RecsX (σ.length + 1) (S.set σ.length (.row (j + 1) 9 (List.flatten Ls ++ cells9 x (.rsl u gu 1 0 x.op.recs.length))) ++ (.box (cells9 x (.rsl u gu 1 0 x.op.recs.length)) :: (τ ++ [.row 0 9 (cells9 x (.rsl u gu 1 0 x.op.recs.length))]))) rc y.op.recs := fun i y hy hi => by
      obtain ⟨rc, h1, h2⟩ := hX i y hy hi
      rw [hS] at h2
      exact ⟨rc, h1, (h2.set (by omega) _).app _⟩
    rw [hST] at hRX2 hSR ⊢
    refine Again.next hlt ⟨Ls ++ [cells9 x (.rsl u gu 1 0 x.op.recs.length)], T ++ (.box (cells9 x (.rsl u gu 1 0 x.op.recs.length)) :: (τ ++ [.row 0 9 (cells9 x (.rsl u gu 1 0 x.op.recs.length))])), rfl, ?_, by simp [hLs], fun y hy => ?_, fun i y hy hi => ?_⟩
    · simp
    · have hL : (σ ++ (AObj.row (j + 1) 9 (List.flatten Ls ++ cells9 x (.rsl u gu 1 0 x.op.recs.length)) :: T) ++ (AObj.box (cells9 x (.rsl u gu 1 0 x.op.recs.length)) :: (τ ++ [AObj.row 0 9 (cells9 x (.rsl u gu 1 0 x.op.recs.length))]))).length = (S ++ [AObj.box [.d (.int .i64 x.client), .d (.int .i64 x.time), .d (.int .i64 x.op.kind), .d (.str x.op.topic), .d (.str x.op.group), .d (.int .i64 x.op.offset), .d (.slice (recsE x.op.recs)), .d (.int .i64 x.key), .d (.int .i64 x.dig)]] ++ τ).length + 1 := by
        simp [hSl]; omega
      rw [hL]
      rcases List.mem_append.1 hy with hy | hy
      · have := hT y hy
        rw [hS] at this
        exact lowO_mono this (by simp; omega)
      · simp only [List.mem_cons, List.mem_append, List.not_mem_nil, or_false] at hy
        rcases hy with rfl | hy | rfl
        · exact hlow9 _ (by omega)
        · exact lowO_mono (hτ y hy) (by omega)
        · exact hlow9 _ (by omega)
    · by_cases hij : i < j
      · obtain ⟨rc, h1, h2⟩ := hSR i y hy hij
        exact ⟨rc, by rw [List.getElem?_append_left (by omega)]; exact h1, h2⟩
      · have : i = j := by omega
        subst this
        rw [hx] at hy
        cases hy
        refine ⟨_, by rw [List.getElem?_append_right (by omega), hLs, Nat.sub_self]; rfl, ?_⟩
        have := hRX2.mono (m := σ.length + 1) (by rw [List.length_append, hSl]; simp)
        rw [List.append_assoc, List.cons_append] at this
        exact this
  · have hd : decide ((j : Int) < (b.length : Int)) = false := by simp; omega
    have hj' : j = b.length := by omega
    have hold : (σ ++ (AObj.row j 9 (List.flatten Ls) :: T)).length = σ.length + (T.length + 1) := by simp
    have hrow : LowO (σ.length + (T.length + 1)) (.row j 9 (List.flatten Ls)) := fun c hc => by
      obtain ⟨l, h1, h2⟩ := List.mem_flatten.1 hc
      obtain ⟨i, hi⟩ := List.mem_iff_getElem?.1 h1
      have hil := lt_len hi
      obtain ⟨rc, h3, h4⟩ := hX i (b[i]'(by omega)) (List.getElem?_eq_getElem _) (by omega)
      rw [hi] at h3; cases h3
      simp only [cells9, List.mem_cons, List.not_mem_nil, or_false] at h2
      rcases h2 with rfl | rfl | rfl | rfl | rfl | rfl | rfl | rfl | rfl
      all_goals first
        | exact .d _
        | exact h4.low (by rw [hold]; exact Nat.le_refl _)
    have hT' : ∀ x ∈ T, LowO (σ.length + (T.length + 1)) x := fun x hx => by have := hT x hx; rwa [hold] at this
    refine gq17 hd ?_
    refine endsK_prefix0 (σ' := σ) (os := .row j 9 (List.flatten Ls) :: T) rfl (by simp) hl ?_ (show Low _ (.rsl σ.length j 9 0 j) from .rsl _ _ _ _ _ (by simp)) (hK _ (.rsl σ.length j 9 0 j) ?_)
    · intro x hx
      show LowO (σ.length + (T.length + 1)) x
      simp only [List.mem_cons] at hx
      rcases hx with rfl | hx
      · exact hrow
      · exact hT' x hx
    · refine ⟨σ.length, j, Ls, Nat.le_refl _, by rw [hj'], by rw [get_app0]; rfl, by omega, fun i x hx => ?_⟩
      obtain ⟨rc, h1, h2⟩ := hX i x hx (by have := lt_len hx; omega)
      exact ⟨rc, h1, h2.mono (by omega)⟩
end Go.Proofs.Ytnfienilahfdjaa
