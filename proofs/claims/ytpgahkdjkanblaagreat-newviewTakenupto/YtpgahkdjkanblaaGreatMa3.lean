/- Contracts: clones of slices, as rows and as data. -/
import Derived.Test.YtpgahkdjkanblaaGreatMa1
import Derived.Test.YtpgahkdjkanblaaGreatSm4
import Derived.Test.YtpgahkdjkanblaaGreatAwFrz
import Derived.Test.YtpgahkdjkanblaaGreatNr3
set_option linter.all false
set_option maxRecDepth 100000
set_option linter.unusedSimpArgs false
set_option linter.unusedVariables false
namespace Go.Proofs.YtpgahkdjkanblaaGreat
open Go.AW

theorem gq66 {P Q : Prop} (h : Q) (e : Hd Q → P := by intro h; (repeat' first | simp -dsimp only [↓zfa, ↓zat, ↓zbt, ↓zfb, ↓zeW, ↓zeU, ↓zeX, ↓zeV, ↓zby, ↓zbu, ↓zbz, ↓zbv, ↓zeY, ↓zbs, ↓zbA, ↓zbw, ↓zbB, ↓zbx, ↓zeT, ↓zeZ, ↓zbr, ↓zbC, ↓zeQ, ↓zeP, ↓zeS, iN, bT, bF, eN, ↓zcO, ↓unC, ↓zP, ↓zG, ↓zH, ↓zK, ↓zW, ↓zaz, ↓zdn, ↓zau, ↓zbf, ↓zQ, ↓zg, ↓zf, ↓zbY, ↓zb, ↓zae, ↓zL, ↓zaN, ↓zaO, ↓zc, ↓zB, ↓zj, ↓zE, ↓zY, ↓zdz, ↓zdA, ↓zam, ↓zap, ↓zaK, ↓zaV, ↓zbj, ↓zm, ↓zai, ↓zJ, ↓zr, ↓zT, zdD, zbo, zbk, unA, zcZ, bnd, zdZ, zac, zR, zdT, dm, dm1, zI, zan, zeq, zep, zZ, Q0, Q1, Q2, Q3, Q4, Q5, zX, zn, zo, zF, zA, Q6, Q7, Q8, Q9, Q10, Q11, Q12, Q13, Q14, Nat.reduceAdd, Q15, Int.reduceToNat, Q16, Q17, Q18, Q19, Q20, reduceIte, Q21, Q22, zw, rep, zU, zeo, toD, zaa, Q23, Q24, Q25, Q26, Q27, Q28, Nat.reduceLeDiff, Q29, Nat.reduceSub, Q30, Q31, Q32, sc, Q33, Q34, Q35, Q36, Q37, Q26, Q38, Q39, zlJ, zlG, zlD, zlK, zeM, zlH, zlE, zlI, zlF, zeL, zeN, zlL, zlM, Bool.not_true, Bool.not_false, List.length_map, List.length_nil, Nat.sub_zero, zfA, zqz] | with_reducible refine zmc ?_ | fail); exact h.go) : P := e ⟨h⟩
theorem gq67 {P Q : Prop} (h : Q) (e : Hd Q → P := by intro h; (repeat' first | simp -dsimp only [↓zfa, ↓zat, ↓zbt, ↓zfb, ↓zeW, ↓zeU, ↓zeX, ↓zeV, ↓zby, ↓zbu, ↓zbz, ↓zbv, ↓zeY, ↓zbs, ↓zbA, ↓zbw, ↓zbB, ↓zbx, ↓zeT, ↓zeZ, ↓zbr, ↓zbC, ↓zeQ, ↓zeP, ↓zeS, iN, bT, bF, eN, ↓zcO, ↓unC, ↓zP, ↓zG, ↓zH, ↓zK, ↓zW, ↓zaz, ↓zdn, ↓zau, ↓zbf, ↓zQ, ↓zg, ↓zf, ↓zbY, ↓zb, ↓zae, ↓zL, ↓zaN, ↓zaO, ↓zc, ↓zB, ↓zj, ↓zE, ↓zY, ↓zdz, ↓zdA, ↓zam, ↓zap, ↓zaK, ↓zaV, ↓zbj, ↓zm, ↓zai, ↓zJ, ↓zr, ↓zT, zdD, zbo, zbk, unA, zcZ, bnd, zdZ, zac, zR, zdT, dm, dm1, zI, zan, zeq, zep, zZ, Q0, Q1, Q2, Q3, Q4, Q5, zX, zn, zo, zF, zA, Q6, Q7, Q8, Q9, Q10, Q11, Q12, Q13, Q14, Nat.reduceAdd, Q15, Int.reduceToNat, Q16, Q17, Q18, Q19, Q20, reduceIte, Q21, Q22, zw, rep, zU, zeo, toD, zaa, Q23, Q24, Q25, Q26, Q27, Q28, Nat.reduceLeDiff, Q29, Nat.reduceSub, Q30, Q31, Q32, sc, Q33, Q34, Q35, Q36, Q37, Q26, Q38, Q39, zlJ, zlG, zlD, zlK, zeM, zlH, zlE, zlI, zlF, zeL, zeN, zlL, zlM, Bool.not_true, Bool.not_false, List.length_map, Nat.sub_zero, zfA, zqz] | with_reducible refine zmc ?_ | fail); exact h.go) : P := e ⟨h⟩
theorem c_clChangeM {σ : List zd} {es : List (List D)} (h8 : ∀ e ∈ es, e.length = 8) (hn : es.length ≤ 1073741824) {K : KT} (hK : ∀ g, K (.rsl σ.length g 8 0 es.length) (σ ++ [.row g 8 (zbb es)])) :
    zl Tryz.prog zbW [.d (.slice es)] σ K := by
  refine zl.weaken ?_
  refine zcm zcW.is rfl (fun s => List.range' σ.length (s.length - σ.length)) fun hl _ => zcW.goes ?_
  have fin : ∀ g, zmz σ.length (fun s => List.range' σ.length (s.length - σ.length)) (fun r s => ∃ r' s', zpV [r] s [r'] s' ∧ K r' s') (some [.rsl σ.length g 8 0 es.length]) (σ ++ [.row g 8 (zbb es)]) := fun g =>
    zdN (σ' := σ) (os := [.row g 8 (zbb es)]) rfl (by simp) hl (by intro x hx; simp only [List.mem_cons, List.not_mem_nil, or_false] at hx; subst hx; exact zmN _ _) (.rsl _ _ _ _ _ (by simp)) ⟨_, _, .refl _ _, hK g⟩
  simp only [zcX, iN, bT, bF, eN]
  cases es with
  | nil =>
    simp only [zY, zcZ]
    refine ⟨?_, ?_⟩
    · refine zaF ?_
      refine zje (r := .exact []) (by simp) hl rfl ?_
      exact ⟨.rsl σ.length 0 8 0 0, σ ++ [.row 0 8 []], .row 0 8 rfl (by omega) (.refl _ _), hK 0⟩
    · refine gq66 ?_
      exact fin 1
  | cons e es =>
    simp only [zY, zcZ]
    refine gq67 ?_
    exact ⟨by simp at hn; omega, fin 1⟩

theorem c_clEntryM {σ : List zd} {es : List (List D)} (h8 : ∀ e ∈ es, e.length = 5) (hn : es.length ≤ 1073741824) {K : KT} (hK : ∀ g, K (.rsl σ.length g 5 0 es.length) (σ ++ [.row g 5 (zbb es)])) :
    zl Tryz.prog zce [.d (.slice es)] σ K := by
  refine zl.weaken ?_
  refine zcm zdr.is rfl (fun s => List.range' σ.length (s.length - σ.length)) fun hl _ => zdr.goes ?_
  have fin : ∀ g, zmz σ.length (fun s => List.range' σ.length (s.length - σ.length)) (fun r s => ∃ r' s', zpV [r] s [r'] s' ∧ K r' s') (some [.rsl σ.length g 5 0 es.length]) (σ ++ [.row g 5 (zbb es)]) := fun g =>
    zdN (σ' := σ) (os := [.row g 5 (zbb es)]) rfl (by simp) hl (by intro x hx; simp only [List.mem_cons, List.not_mem_nil, or_false] at hx; subst hx; exact zmN _ _) (.rsl _ _ _ _ _ (by simp)) ⟨_, _, .refl _ _, hK g⟩
  simp only [zdt, iN, bT, bF, eN]
  cases es with
  | nil =>
    simp only [zY, zcZ]
    refine ⟨?_, ?_⟩
    · refine zaF ?_
      refine zje (r := .exact []) (by simp) hl rfl ?_
      exact ⟨.rsl σ.length 0 5 0 0, σ ++ [.row 0 5 []], .row 0 5 rfl (by omega) (.refl _ _), hK 0⟩
    · refine gq66 ?_
      exact fin 1
  | cons e es =>
    simp only [zY, zcZ]
    refine gq67 ?_
    exact ⟨by simp at hn; omega, fin 1⟩

theorem c_clPrepM {σ : List zd} {es : List (List D)} (h8 : ∀ e ∈ es, e.length = 7) (hn : es.length ≤ 1073741824) {K : KT} (hK : ∀ g, K (.rsl σ.length g 7 0 es.length) (σ ++ [.row g 7 (zbb es)])) :
    zl Tryz.prog zbG [.d (.slice es)] σ K := by
  refine zl.weaken ?_
  refine zcm zct.is rfl (fun s => List.range' σ.length (s.length - σ.length)) fun hl _ => zct.goes ?_
  have fin : ∀ g, zmz σ.length (fun s => List.range' σ.length (s.length - σ.length)) (fun r s => ∃ r' s', zpV [r] s [r'] s' ∧ K r' s') (some [.rsl σ.length g 7 0 es.length]) (σ ++ [.row g 7 (zbb es)]) := fun g =>
    zdN (σ' := σ) (os := [.row g 7 (zbb es)]) rfl (by simp) hl (by intro x hx; simp only [List.mem_cons, List.not_mem_nil, or_false] at hx; subst hx; exact zmN _ _) (.rsl _ _ _ _ _ (by simp)) ⟨_, _, .refl _ _, hK g⟩
  simp only [zcu, iN, bT, bF, eN]
  cases es with
  | nil =>
    simp only [zY, zcZ]
    refine ⟨?_, ?_⟩
    · refine zaF ?_
      refine zje (r := .exact []) (by simp) hl rfl ?_
      exact ⟨.rsl σ.length 0 7 0 0, σ ++ [.row 0 7 []], .row 0 7 rfl (by omega) (.refl _ _), hK 0⟩
    · refine gq66 ?_
      exact fin 1
  | cons e es =>
    simp only [zY, zcZ]
    refine gq67 ?_
    exact ⟨by simp at hn; omega, fin 1⟩

theorem c_clHdr {σ : List zd} {es : List (List D)} (h8 : ∀ e ∈ es, e.length = 5) (hn : es.length ≤ 1073741824) {K : KT} (hK : K (.d (.slice es)) σ) :
    zl Tryz.prog zbU [.d (.slice es)] σ K := by
  refine ze zdg.is rfl fun hl _ => zdg.goes ?_
  simp only [zdl, iN, bT, bF, eN, zY, zcZ]
  cases es with
  | nil =>
    refine ⟨?_, ?_⟩
    · refine zaF ?_
      refine zV hl ?_
      exact hK
    · refine zaF ?_
      refine zV hl ?_
      exact hK
  | cons e es =>
    simp only [zP, zr, zI, zR, rep, zj, zeo, zaa, zE, zdT]
    refine ⟨h8, by simp, by simp at hn ⊢; omega, ?_⟩
    refine zV hl ?_
    exact hK

theorem c_clDig {σ : List zd} {es : List (List D)} (h8 : ∀ e ∈ es, e.length = 1) (hn : es.length ≤ 1073741824) {K : KT} (hK : K (.d (.slice es)) σ) :
    zl Tryz.prog zbV [.d (.slice es)] σ K := by
  refine ze zdh.is rfl fun hl _ => zdh.goes ?_
  simp only [zdm, iN, bT, bF, eN, zY, zcZ]
  cases es with
  | nil =>
    refine ⟨?_, ?_⟩
    · refine zaF ?_
      refine zV hl ?_
      exact hK
    · refine zaF ?_
      refine zV hl ?_
      exact hK
  | cons e es =>
    simp only [zP, zr, zI, zR, rep, zj, zeo, zaa, zE, zdT]
    refine ⟨h8, by simp, by simp at hn ⊢; omega, ?_⟩
    refine zV hl ?_
    exact hK

theorem c_clByt {σ : List zd} {es : List (List D)} (h8 : ∀ e ∈ es, e.length = 1) (hn : es.length ≤ 1073741824) {K : KT} (hK : K (.d (.slice es)) σ) :
    zl Tryz.prog zcC [.d (.slice es)] σ K := by
  refine ze ziH.is rfl fun hl _ => ziH.goes ?_
  simp only [zlB, iN, bT, bF, eN, zY, zcZ]
  cases es with
  | nil =>
    refine ⟨?_, ?_⟩
    · refine zaF ?_
      refine zV hl ?_
      exact hK
    · refine zaF ?_
      refine zV hl ?_
      exact hK
  | cons e es =>
    simp only [zP, zr, zI, zR, rep, zj, zeo, zaa, zE, zdT]
    refine ⟨h8, by simp, by simp at hn ⊢; omega, ?_⟩
    refine zV hl ?_
    exact hK

theorem zly {σ : List zd} {c : zfB} (hn : c.signs.length ≤ 1073741824) {K : KT} (hK : K (zfX c) σ) : zl Tryz.prog zdp [zfX c] σ K := by
  refine ze zjk.is rfl fun hl _ => zjk.goes ?_
  simp only [zjA, iN, bT, bF, eN, zfX]
  refine zaF ?_
  refine c_clSign hn ?_
  refine zaF ?_
  refine zV hl ?_
  exact hK
theorem zuB {α : Type} {l : List α} {i : Nat} {x : α} (h : l[i]? = some x) : l.take i ++ x :: l.drop (i + 1) = l := by
  obtain ⟨hi, hx⟩ := List.getElem?_eq_some_iff.1 h
  rw [← hx, ← List.drop_eq_getElem_cons hi, List.take_append_drop]
theorem row_same8 {es : List (List D)} {sz k : Nat} {e : List D} (h : ∀ e ∈ es, e.length = sz) (he : es[k]? = some e) : (zbb es).take (k * sz) ++ (e.map AV.d ++ (zbb es).drop (k * sz + sz)) = zbb es := by
  have h1 := zpl h he
  rw [← h1, ← List.drop_drop, List.take_append_drop, List.take_append_drop]
end Go.Proofs.YtpgahkdjkanblaaGreat
