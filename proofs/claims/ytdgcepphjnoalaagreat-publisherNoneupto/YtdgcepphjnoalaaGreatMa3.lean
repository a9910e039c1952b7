/- Contracts: clones of slices, as rows and as data. -/
import Derived.Test.YtdgcepphjnoalaaGreatAu3
import Derived.Test.YtdgcepphjnoalaaGreatCk4
import Derived.Test.YtdgcepphjnoalaaGreatPr1
import Derived.Test.YtdgcepphjnoalaaGreatAwFrz
import Derived.Test.YtdgcepphjnoalaaGreatRq1
import Derived.Test.YtdgcepphjnoalaaGreatSpTab
import Derived.Test.YtdgcepphjnoalaaGreatSh
import Derived.Test.YtdgcepphjnoalaaGreatAwEnd
set_option linter.all false
set_option maxRecDepth 100000
set_option linter.unusedSimpArgs false
set_option linter.unusedVariables false
namespace Go.Proofs.YtdgcepphjnoalaaGreat
open Go.AW

theorem gq38 {P Q : Prop} (h : Q) (e : Hd Q → P := by intro h; (repeat' first | simp -dsimp only [↓zgn, ↓zaG, ↓zca, ↓zgo, ↓zgh, ↓zgf, ↓zgi, ↓zgg, ↓zcf, ↓zcb, ↓zcg, ↓zcc, ↓zgj, ↓zbW, ↓zch, ↓zcd, ↓zci, ↓zce, ↓zge, ↓zgl, ↓zbV, ↓zck, ↓zgb, ↓zga, ↓zgd, iN, bT, bF, eN, ↓zds, ↓unC, ↓zX, ↓zJ, ↓zK, ↓zM, ↓zal, ↓zaV, ↓zdU, ↓zay, ↓zbD, ↓zR, ↓zi, ↓zg, ↓zbr, ↓zd, ↓zan, ↓zO, ↓zbf, ↓zbg, ↓zf, ↓zB, ↓zn, ↓zD, ↓zZ, ↓zeb, ↓zes, ↓zaq, ↓zaC, ↓zbe, ↓zbl, ↓zbG, ↓zp, ↓zao, ↓zL, ↓zr, ↓zaj, zen, zbP, zbL, unA, zdF, bnd, zeV, zaf, zac, zeF, dm, dm1, zQ, zaz, zfy, zfx, zI, Q0, Q1, Q2, Q3, Q4, Q5, zam, zw, zu, zN, zG, Q6, Q7, Q8, Q9, Q10, Q11, Q12, Q13, Q14, Nat.reduceAdd, Q15, Int.reduceToNat, Q16, Q17, Q18, Q19, Q20, reduceIte, Q21, Q22, zC, rep, zV, zfi, toD, zad, Q23, Q24, Q25, Q26, Q27, Q28, Nat.reduceLeDiff, Q29, Nat.reduceSub, Q30, Q31, Q32, sc, Q33, Q34, Q35, Q36, Q37, Q26, Q38, Q39, zmU, zmR, zmO, zmV, zfD, zmS, zmP, zmT, zmQ, zfC, zfE, zmY, zmZ, Bool.not_true, Bool.not_false, List.length_map, Bool.and_false, Bool.and_self, Bool.false_and, Bool.not_false, Bool.not_true, Bool.true_and, Int.toNat_natCast, Int.toNat_zero, List.drop_zero, List.length_map, List.length_nil, List.nil_append, List.take_length, Nat.sub_zero, Nat.zero_add, Option.isSome_none, Option.isSome_some, Option.map_none, Option.map_some, zgp, zaJ, beq_self_eq_true, bne_self_eq_false, zor, zeF] | with_reducible refine zni ?_ | fail); exact h.go) : P := e ⟨h⟩
theorem c_clChangeM {σ : List zc} {es : List (List D)} (h8 : ∀ e ∈ es, e.length = 8) (hn : es.length ≤ 1073741824) {K : AV → List zc → Prop} (hK : ∀ g, K (.rsl σ.length g 8 0 es.length) (σ ++ [.row g 8 (zdw es)])) :
    zl Tryz.prog zbc [.d (.slice es)] σ K := by
  refine zl.weaken ?_
  refine zbN zbS.is rfl (fun s => List.range' σ.length (s.length - σ.length)) fun hl _ => zbS.goes ?_
  have fin : ∀ g, zlR σ.length (fun s => List.range' σ.length (s.length - σ.length)) (fun r s => ∃ r' s', zlV [r] s [r'] s' ∧ K r' s') (some [.rsl σ.length g 8 0 es.length]) (σ ++ [.row g 8 (zdw es)]) := fun g =>
    zcL (σ' := σ) (os := [.row g 8 (zdw es)]) rfl (by simp) hl (by intro x hx; simp only [List.mem_cons, List.not_mem_nil, or_false] at hx; subst hx; exact zls _ _) (.rsl _ _ _ _ _ (by simp)) ⟨_, _, .refl _ _, hK g⟩
  simp only [zbU, iN, bT, bF, eN, zl5]
  cases es with
  | nil =>
    simp only [zZ, zdF]
    refine ⟨?_, ?_⟩
    · refine zaP ?_
      refine zit (r := .exact []) (by simp) hl rfl ?_
      exact ⟨.rsl σ.length 0 8 0 0, σ ++ [.row 0 8 []], .row 0 8 rfl (by omega) (.refl _ _), hK 0⟩
    · refine gq38 ?_
      exact fin 1
  | cons e es =>
    simp only [zZ, zdF]
    refine gq38 ?_
    exact ⟨by simp at hn; omega, fin 1⟩

theorem c_clEntryM {σ : List zc} {es : List (List D)} (h8 : ∀ e ∈ es, e.length = 5) (hn : es.length ≤ 1073741824) {K : AV → List zc → Prop} (hK : ∀ g, K (.rsl σ.length g 5 0 es.length) (σ ++ [.row g 5 (zdw es)])) :
    zl Tryz.prog zbm [.d (.slice es)] σ K := by
  refine zl.weaken ?_
  refine zbN zcw.is rfl (fun s => List.range' σ.length (s.length - σ.length)) fun hl _ => zcw.goes ?_
  have fin : ∀ g, zlR σ.length (fun s => List.range' σ.length (s.length - σ.length)) (fun r s => ∃ r' s', zlV [r] s [r'] s' ∧ K r' s') (some [.rsl σ.length g 5 0 es.length]) (σ ++ [.row g 5 (zdw es)]) := fun g =>
    zcL (σ' := σ) (os := [.row g 5 (zdw es)]) rfl (by simp) hl (by intro x hx; simp only [List.mem_cons, List.not_mem_nil, or_false] at hx; subst hx; exact zls _ _) (.rsl _ _ _ _ _ (by simp)) ⟨_, _, .refl _ _, hK g⟩
  simp only [zcy, iN, bT, bF, eN]
  cases es with
  | nil =>
    simp only [zZ, zdF]
    refine ⟨?_, ?_⟩
    · refine zaP ?_
      refine zit (r := .exact []) (by simp) hl rfl ?_
      exact ⟨.rsl σ.length 0 5 0 0, σ ++ [.row 0 5 []], .row 0 5 rfl (by omega) (.refl _ _), hK 0⟩
    · refine gq38 ?_
      exact fin 1
  | cons e es =>
    simp only [zZ, zdF]
    refine gq38 ?_
    exact ⟨by simp at hn; omega, fin 1⟩

theorem c_clPrepM {σ : List zc} {es : List (List D)} (h8 : ∀ e ∈ es, e.length = 7) (hn : es.length ≤ 1073741824) {K : AV → List zc → Prop} (hK : ∀ g, K (.rsl σ.length g 7 0 es.length) (σ ++ [.row g 7 (zdw es)])) :
    zl Tryz.prog zaI [.d (.slice es)] σ K := by
  refine zl.weaken ?_
  refine zbN zbx.is rfl (fun s => List.range' σ.length (s.length - σ.length)) fun hl _ => zbx.goes ?_
  have fin : ∀ g, zlR σ.length (fun s => List.range' σ.length (s.length - σ.length)) (fun r s => ∃ r' s', zlV [r] s [r'] s' ∧ K r' s') (some [.rsl σ.length g 7 0 es.length]) (σ ++ [.row g 7 (zdw es)]) := fun g =>
    zcL (σ' := σ) (os := [.row g 7 (zdw es)]) rfl (by simp) hl (by intro x hx; simp only [List.mem_cons, List.not_mem_nil, or_false] at hx; subst hx; exact zls _ _) (.rsl _ _ _ _ _ (by simp)) ⟨_, _, .refl _ _, hK g⟩
  simp only [zbz, iN, bT, bF, eN, zl7]
  cases es with
  | nil =>
    simp only [zZ, zdF]
    refine ⟨?_, ?_⟩
    · refine zaP ?_
      refine zit (r := .exact []) (by simp) hl rfl ?_
      exact ⟨.rsl σ.length 0 7 0 0, σ ++ [.row 0 7 []], .row 0 7 rfl (by omega) (.refl _ _), hK 0⟩
    · refine gq38 ?_
      exact fin 1
  | cons e es =>
    simp only [zZ, zdF]
    refine gq38 ?_
    exact ⟨by simp at hn; omega, fin 1⟩

theorem c_clHdr {σ : List zc} {es : List (List D)} (h8 : ∀ e ∈ es, e.length = 5) (hn : es.length ≤ 1073741824) {K : AV → List zc → Prop} (hK : K (.d (.slice es)) σ) :
    zl Tryz.prog zba [.d (.slice es)] σ K := by
  refine zfT zel fun hl => ?_
  simp only [zcn, iN, bT, bF, eN, zZ, zdF]
  cases es with
  | nil =>
    refine ⟨?_, ?_⟩
    · refine zaP ?_
      refine zap hl ?_
      exact hK
    · refine zaP ?_
      refine zap hl ?_
      exact hK
  | cons e es =>
    simp only [zX, zr, zQ, zac, rep, zn, zfi, zad, zD, zeF]
    refine ⟨h8, by simp, by simp at hn ⊢; omega, ?_⟩
    refine zap hl ?_
    exact hK

theorem c_clDig {σ : List zc} {es : List (List D)} (h8 : ∀ e ∈ es, e.length = 1) (hn : es.length ≤ 1073741824) {K : AV → List zc → Prop} (hK : K (.d (.slice es)) σ) :
    zl Tryz.prog zbb [.d (.slice es)] σ K := by
  refine zfT zem fun hl => ?_
  simp only [zco, iN, bT, bF, eN, zZ, zdF]
  cases es with
  | nil =>
    refine ⟨?_, ?_⟩
    · refine zaP ?_
      refine zap hl ?_
      exact hK
    · refine zaP ?_
      refine zap hl ?_
      exact hK
  | cons e es =>
    simp only [zX, zr, zQ, zac, rep, zn, zfi, zad, zD, zeF]
    refine ⟨h8, by simp, by simp at hn ⊢; omega, ?_⟩
    refine zap hl ?_
    exact hK

theorem c_clByt {σ : List zc} {es : List (List D)} (h8 : ∀ e ∈ es, e.length = 1) (hn : es.length ≤ 1073741824) {K : AV → List zc → Prop} (hK : K (.d (.slice es)) σ) :
    zl Tryz.prog zbY [.d (.slice es)] σ K := by
  refine zfT ziv fun hl => ?_
  simp only [ziE, iN, bT, bF, eN, zZ, zdF]
  cases es with
  | nil =>
    refine ⟨?_, ?_⟩
    · refine zaP ?_
      refine zap hl ?_
      exact hK
    · refine zaP ?_
      refine zap hl ?_
      exact hK
  | cons e es =>
    simp only [zX, zr, zQ, zac, rep, zn, zfi, zad, zD, zeF]
    refine ⟨h8, by simp, by simp at hn ⊢; omega, ?_⟩
    refine zap hl ?_
    exact hK

theorem ziy {σ : List zc} {c : zlL} (hn : c.signs.length ≤ 1073741824) {K : AV → List zc → Prop} (hK : K (certA c) σ) : zl Tryz.prog zcu [certA c] σ K := by
  refine zfT zkM fun hl => ?_
  simp only [zgP, iN, bT, bF, eN, certA]
  refine zaP ?_
  refine c_clSign hn ?_
  refine zaP ?_
  refine zap hl ?_
  exact hK
theorem zqH {α : Type} {l : List α} {i : Nat} {x : α} (h : l[i]? = some x) : l.take i ++ x :: l.drop (i + 1) = l := by
  obtain ⟨hi, hx⟩ := List.getElem?_eq_some_iff.1 h
  rw [← hx, ← List.drop_eq_getElem_cons hi, List.take_append_drop]
theorem row_same8 {es : List (List D)} {sz k : Nat} {e : List D} (h : ∀ e ∈ es, e.length = sz) (he : es[k]? = some e) : (zdw es).take (k * sz) ++ (e.map AV.d ++ (zdw es).drop (k * sz + sz)) = zdw es := by
  have h1 := zos h he
  rw [← h1, ← List.drop_drop, List.take_append_drop, List.take_append_drop]



end Go.Proofs.YtdgcepphjnoalaaGreat

/- The numbers of a new view's entries fit. No program in sight. -/
set_option linter.unusedSimpArgs false
namespace Go.AW

section
variable {P : Program} {σ : List zc}
theorem zl.frz {f : FuncId} {xs : List AV} {K : AV → List zc → Prop} (m : Nat) (h : zl P f xs σ fun r s => ∃ r', frzT s σ.length m r = some r' ∧ s.take σ.length = σ ∧ K r' σ) : zl P f xs σ K :=
  ⟨h.1, fun L w vs S hv => (h.2 L w vs S hv).mono fun e w' he => by
    cases e with
    | panicked _ => exact he
    | outgrown => exact he
    | returned v =>
      obtain ⟨L', σ', r, st, S', hr, r', hf, ht, hK⟩ := he
      have z2 : zfz σ.length (σ'.take σ.length) := by rw [ht]; exact S.lows
      have hS := S'.take z2
      have hst := st.take
      have hv := zpZ S' (L2 := L') (σ2 := σ'.take σ.length) (fun b o => zll) (fun t x ht hx hk b o hf hown => by
        obtain ⟨id, y, hy, hfy⟩ := hown
        rw [List.getElem?_take] at hy
        split at hy
        · rename_i hid
          exact S'.apart id t y x b o (by omega) hy hx hfy hf
        · cases hy) hr hf
      rw [ht] at hS hst hv
      exact ⟨L', σ, r', hst, hS, hv, hK⟩⟩
end

end Go.AW

/- Rows: what is told of their cells. -/
set_option maxRecDepth 100000
set_option linter.unusedSimpArgs false
set_option linter.unusedVariables false
namespace Go.Proofs.YtdgcepphjnoalaaGreat
open Go.AW


theorem frz_row {σ : List zc} {n₀ m t g sz : Nat} {es : List (List D)} (ht : σ[t]? = some (.row g sz (zdw es))) (hn : n₀ ≤ t) (h : ∀ e ∈ es, e.length = sz) : frz σ n₀ (m + 2) (.rsl t g sz 0 es.length) = some (.slice es) := by
  have hf : ∀ ds : List D, allO ((ds.map AV.d).map (frz σ n₀ (m + 1))) = some ds := by
    intro ds
    induction ds with
    | nil => rfl
    | cons d ds ih =>
      have : frz σ n₀ (m + 1) (.d d) = some d := rfl
      simp only [List.map_cons, this, allO, ih]
  have hc : ∀ (es : List (List D)), (∀ e ∈ es, e.length = sz) → zad sz es.length es.flatten = es := by
    intro es
    induction es with
    | nil => intro _; rfl
    | cons e es ih =>
      intro h
      have he := h e List.mem_cons_self
      simp only [List.length_cons, zad, List.flatten_cons]
      rw [List.take_left' he, List.drop_left' he, ih fun x hx => h x (List.mem_cons_of_mem _ hx)]
  have hl : (zdw es).length = es.length * sz := zjr h
  simp only [frz, ht, hn, true_and, and_self, if_true, Nat.zero_mul, List.drop_zero, Nat.sub_zero]
  rw [List.take_of_length_le (by omega), hf]
  simp only
  rw [hc es h]
theorem frz_d (σ : List zc) (n m : Nat) (x : D) : frz σ n m (.d x) = some x := by cases m <;> rfl
end Go.Proofs.YtdgcepphjnoalaaGreat
