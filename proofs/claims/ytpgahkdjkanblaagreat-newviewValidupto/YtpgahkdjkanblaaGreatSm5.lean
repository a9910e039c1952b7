/- Contracts: which messages may be, the program's: view-changes and new views. -/
import Derived.Test.YtpgahkdjkanblaaGreatSm4
import Derived.Test.YtpgahkdjkanblaaGreatKr1
set_option linter.all false
set_option maxRecDepth 100000
set_option linter.unusedSimpArgs false
set_option linter.unusedVariables false
namespace Go.Proofs.YtpgahkdjkanblaaGreat
open Go.AW

theorem c_intIndex {σ : List zf} {l : List Int} {x : Int} (hl0 : l.length ≤ 1073741824) {K : KT} (hK : ∀ i : Int, (0 ≤ i ↔ x ∈ l) → K (.d (.int .i64 i)) σ) :
    zm Tryz.prog zeg [.d (.slice (zop l)), .d (.int .i64 x)] σ K := by
  refine zc zgj.is rfl fun hl _ => zgj.goes ?_
  simp only [zgt, iN, bT, bF, eN]
  refine zao ?_
  refine zl l.length (fun k vs s => vs = [.d (.int .i64 k)] ∧ (∃ T, s = σ ++ T) ∧ x ∉ l.take k) ⟨rfl, ⟨[], by simp⟩, by simp⟩ ?_
  rintro k vs s hk ⟨rfl, ⟨T, rfl⟩, htk⟩
  by_cases hlt : k < l.length
  · have hd : decide ((k : Int) < (l.length : Int)) = true := by simp; omega
    have hx : l[k]? = some l[k] := by simp [hlt]
    have hmem := List.getElem_mem hlt
    have hgx := zQ (f := fun t => [D.int .i64 t]) hx
    obtain ⟨y, hye⟩ : ∃ y, l[k] = y := ⟨_, rfl⟩
    rw [hye] at hx hgx hmem
    cases h : (x == y)
    · refine zH (zi hd (zi hgx (zi h (wk1 k (by omega))))) ?_
      refine zaG.next hlt ⟨rfl, ⟨_, rfl⟩, ?_⟩
      rw [List.take_add_one, hx]
      simp at h
      simp [htk, h]
    · refine zH (zi hd (zi hgx h)) ?_
      refine zq hl ?_
      refine hK _ ?_
      simp at h
      simp [h, hmem]
  · have hd : decide ((k : Int) < (l.length : Int)) = false := by simp; omega
    refine zH hd ?_
    refine zq hl ?_
    refine hK _ ?_
    rw [List.take_of_length_le (by omega)] at htk
    simp [htk]
theorem zwr {σ : List zf} {l : List Int} {x : Int} (hl0 : l.length ≤ 1073741824) {K : KT} (hK : K (.d (.bool (decide (x ∈ l)))) σ) :
    zm Tryz.prog zdl [.d (.slice (zop l)), .d (.int .i64 x)] σ K := by
  refine zc zfd.is rfl fun hl _ => zfd.goes ?_
  simp only [zfg, iN, bT, bF, eN]
  refine zao ?_
  refine c_intIndex hl0 fun i hi => ?_
  have e : decide (i ≥ 0) = decide (x ∈ l) := by rw [decide_eq_decide, ge_iff_le, hi]
  refine zao ?_
  rw [e]
  refine zq hl ?_
  exact hK
theorem c_mSigned {σ : List zf} {k : Int} {K : KT} (hK : K (.d (.bool (ownK k))) σ) : zm Tryz.prog zcZ [.d (.int .i64 k)] σ K := by
  refine zc zls.is rfl fun hl _ => zls.goes ?_
  simp only [zlK, iN, bT, bF, eN]
  refine zao ?_
  refine zwr (l := [2, 3, 4, 5, 6, 8, 9]) (by simp) ?_
  have e : decide (k ∈ [2, 3, 4, 5, 6, 8, 9]) = ownK k := by
    unfold ownK
    rw [decide_eq_decide]
    simp
    omega
  rw [e]
  refine zao ?_
  refine zq hl ?_
  exact hK
theorem zoF.zero {σ S : List zf} {id : Nat} {B : zf} {P : List Int} (h : zoF σ id B P S) : zoF σ id B (P ++ [0]) S := by
  have e : zbj (P ++ [0]) = zbj P := by
    rw [zif]
    by_cases h : zbj P = 0
    · rw [if_neg (by simpa using h), h]; rfl
    · rw [if_pos h]
  obtain ⟨h1, h2, h3⟩ := h
  exact ⟨by rw [e]; exact h1, h2, by rw [e]; exact h3⟩
end Go.Proofs.YtpgahkdjkanblaaGreat

/- Contracts: which view-changes and new views may be, as messages: the program's. -/
set_option maxRecDepth 100000
set_option linter.unusedSimpArgs false
set_option linter.unusedVariables false
namespace Go.Proofs.YtpgahkdjkanblaaGreat
open Go.AW

section
variable {σ S : List zf} {id n : Nat} {B X : zf} {P : List Int} {K : KT} (j : zoF σ id B P S) (hid : id < σ.length) (hne : n ≠ id) (c : S[n]? = some X)
include j hid hne c
end

theorem c_aMsg7 {σ : List zf} {id : Nat} {P : List Int} {m : zgs} (hσ : σ[id]? = some (zhb (zbj P))) (hm : zdX m) (hk : m.kind = 7) {K : KT} (hK : K (.tup []) (σ.set id (zhb (zbj (P ++ zkb m))))) :
    zm Tryz.prog zdN [.box id 0, zqx m] σ K := by
  refine zc zfY.is rfl fun hl _ => zfY.goes ?_
  have hid := zdB hσ
  have hcl : (zaP m.changes).length = m.changes.length := List.length_map ..
  have hc := hm.changes
  simp only [zgb, iN, bT, bF, eN]
  have j := zoF.first hσ (msgO m)
  refine zH (zi (show (m.kind == 1) = false by rw [hk]; rfl) (zi (show (m.kind == 2) = false by rw [hk]; rfl) (zi (show (m.kind == 3) = false by rw [hk]; rfl) (zi (show (m.kind == 4) = false by rw [hk]; rfl) (zi (show (m.kind == 5) = false by rw [hk]; rfl) (zi (show (m.kind == 6) = false by rw [hk]; rfl) (zi (show (m.kind == 7) = true by rw [hk]; rfl) (zi (show (m.kind == 8) = false by rw [hk]; rfl) (zi (show (m.kind == 9) = false by rw [hk]; rfl) (zi (show (m.kind == 10) = false by rw [hk]; rfl) (zi (show (m.kind == 11) = false by rw [hk]; rfl) (zi (show (m.kind == 12) = false by rw [hk]; rfl) hcl)))))))))))) ?_
  refine j_in j hid fun S j => ?_
  have b := j.b
  obtain ⟨Q, hQ⟩ : ∃ Q, P ++ [inE m.changes.length 1 1] = Q := ⟨_, rfl⟩
  rw [hQ] at j
  refine zH (zi b (zi hcl (zi (show (m.kind == 1) = false by rw [hk]; rfl) (zi (show (m.kind == 2) = false by rw [hk]; rfl) (zi (show (m.kind == 3) = false by rw [hk]; rfl) (zi (show (m.kind == 4) = false by rw [hk]; rfl) (zi (show (m.kind == 5) = false by rw [hk]; rfl) (zi (show (m.kind == 6) = false by rw [hk]; rfl) (zi (show (m.kind == 7) = true by rw [hk]; rfl) (zi (show (m.kind == 8) = false by rw [hk]; rfl) (zi (show (m.kind == 9) = false by rw [hk]; rfl) (zi (show (m.kind == 10) = false by rw [hk]; rfl) (zi (show (m.kind == 11) = false by rw [hk]; rfl) (show (m.kind == 12) = false by rw [hk]; rfl)))))))))))))) ?_
  refine zl m.changes.length (fun k vs S => vs = [.d (.int .i64 k)] ∧ zoF σ id (msgO m) (Q ++ ((m.changes.take k).map fun c => zbT c ++ [if c.src ≠ m.src ∨ c.view ≠ m.view then 100 else 0]).flatten) S) ⟨rfl, by simpa using j⟩ ?_
  rintro k vs S hk0 ⟨rfl, j⟩
  by_cases hlt : k < m.changes.length
  · have hd : decide ((k : Int) < (m.changes.length : Int)) = true := by simp; omega
    have hx : m.changes[k]? = some m.changes[k] := by simp [hlt]
    have hpx := hm.change _ (List.getElem_mem hlt)
    have hgx := zQ (f := zbm) hx
    obtain ⟨p, hp⟩ : ∃ p, m.changes[k] = p := ⟨_, rfl⟩
    rw [hp] at hx hgx hpx
    have c : (S ++ [.box (zbV p)])[S.length]? = some (.box (zbV p)) := by rw [zt]; rfl
    have hne : S.length ≠ id := by obtain ⟨τ, h1⟩ := j.pre; rw [h1]; simp; omega
    have j := j.app [.box (zbV p)]
    refine zjk (zi hd (zi hgx hcl)) ?_
    obtain ⟨n, hn⟩ : ∃ n, S.length = n := ⟨_, rfl⟩
    obtain ⟨S0, hS0⟩ : ∃ S0, S ++ [zf.box (zbV p)] = S0 := ⟨_, rfl⟩
    rw [hn] at c hne
    rw [hS0] at c j
    rw [hn, hS0]
    refine c_aChange (c := p) j.a hpx.1 ?_
    have j := j.set hid (Q ++ ((m.changes.take k).map fun c => zbT c ++ [if c.src ≠ m.src ∨ c.view ≠ m.view then 100 else 0]).flatten ++ zbT p)
    have c := (List.getElem?_set_ne (a := zhb (zbj (Q ++ ((m.changes.take k).map fun c => zbT c ++ [if c.src ≠ m.src ∨ c.view ≠ m.view then 100 else 0]).flatten ++ zbT p))) hne.symm).trans c
    obtain ⟨S1, hS1⟩ : ∃ S1, S0.set id (zhb (zbj (Q ++ ((m.changes.take k).map fun c => zbT c ++ [if c.src ≠ m.src ∨ c.view ≠ m.view then 100 else 0]).flatten ++ zbT p))) = S1 := ⟨_, rfl⟩
    rw [hS1] at c j ⊢
    have b := j.b
    cases h1 : (p.src != m.src)
    · cases h2 : (p.view != m.view)
      · refine zH (zi b (zi c (zi h1 (zi h2 (zi (show (m.kind == 1) = false by rw [hk]; rfl) (zi (show (m.kind == 2) = false by rw [hk]; rfl) (zi (show (m.kind == 3) = false by rw [hk]; rfl) (zi (show (m.kind == 4) = false by rw [hk]; rfl) (zi (show (m.kind == 5) = false by rw [hk]; rfl) (zi (show (m.kind == 6) = false by rw [hk]; rfl) (zi (show (m.kind == 7) = true by rw [hk]; rfl) (zi (show (m.kind == 8) = false by rw [hk]; rfl) (zi (show (m.kind == 9) = false by rw [hk]; rfl) (zi (show (m.kind == 10) = false by rw [hk]; rfl) (zi (show (m.kind == 11) = false by rw [hk]; rfl) (zi (show (m.kind == 12) = false by rw [hk]; rfl) (wkc k (by omega)))))))))))))))))) ?_
        refine zaG.next hlt ⟨rfl, ?_⟩
        rw [zhi hx, ← List.append_assoc, ← List.append_assoc, if_neg (by simp at h1 h2; simp [h1, h2])]
        exact j.zero
      · refine zH (zi b (zi c (zi h1 (zi h2 (zi (show (m.kind == 1) = false by rw [hk]; rfl) (zi (show (m.kind == 2) = false by rw [hk]; rfl) (zi (show (m.kind == 3) = false by rw [hk]; rfl) (zi (show (m.kind == 4) = false by rw [hk]; rfl) (zi (show (m.kind == 5) = false by rw [hk]; rfl) (zi (show (m.kind == 6) = false by rw [hk]; rfl) (zi (show (m.kind == 7) = true by rw [hk]; rfl) (zi (show (m.kind == 8) = false by rw [hk]; rfl) (zi (show (m.kind == 9) = false by rw [hk]; rfl) (zi (show (m.kind == 10) = false by rw [hk]; rfl) (zi (show (m.kind == 11) = false by rw [hk]; rfl) (zi (show (m.kind == 12) = false by rw [hk]; rfl) (wkc k (by omega)))))))))))))))))) ?_
        refine j_says j hid fun S j => ?_
        refine zH (wkc k (by omega)) ?_
        refine zaG.next hlt ⟨rfl, ?_⟩
        rw [zhi hx, ← List.append_assoc, ← List.append_assoc, if_pos (by simp at h1 h2; simp [h2])]
        exact j
    · refine zH (zi b (zi c (zi h1 (zi (show (m.kind == 1) = false by rw [hk]; rfl) (zi (show (m.kind == 2) = false by rw [hk]; rfl) (zi (show (m.kind == 3) = false by rw [hk]; rfl) (zi (show (m.kind == 4) = false by rw [hk]; rfl) (zi (show (m.kind == 5) = false by rw [hk]; rfl) (zi (show (m.kind == 6) = false by rw [hk]; rfl) (zi (show (m.kind == 7) = true by rw [hk]; rfl) (zi (show (m.kind == 8) = false by rw [hk]; rfl) (zi (show (m.kind == 9) = false by rw [hk]; rfl) (zi (show (m.kind == 10) = false by rw [hk]; rfl) (zi (show (m.kind == 11) = false by rw [hk]; rfl) (zi (show (m.kind == 12) = false by rw [hk]; rfl) (wkc k (by omega))))))))))))))))) ?_
      refine j_says j hid fun S j => ?_
      refine zH (wkc k (by omega)) ?_
      refine zaG.next hlt ⟨rfl, ?_⟩
      rw [zhi hx, ← List.append_assoc, ← List.append_assoc, if_pos (by simp at h1; simp [h1])]
      exact j
  · have hd : decide ((k : Int) < (m.changes.length : Int)) = false := by simp; omega
    rw [show m.changes.take k = m.changes from List.take_of_length_le (by omega)] at j
    have b := j.b
    refine zH (zi hd (zi hcl (zi b (zi (show (m.kind == 1) = false by rw [hk]; rfl) (zi (show (m.kind == 2) = false by rw [hk]; rfl) (zi (show (m.kind == 3) = false by rw [hk]; rfl) (zi (show (m.kind == 4) = false by rw [hk]; rfl) (zi (show (m.kind == 5) = false by rw [hk]; rfl) (zi (show (m.kind == 6) = false by rw [hk]; rfl) (zi (show (m.kind == 7) = true by rw [hk]; rfl) (zi (show (m.kind == 8) = false by rw [hk]; rfl) (zi (show (m.kind == 9) = false by rw [hk]; rfl) (zi (show (m.kind == 10) = false by rw [hk]; rfl) (zi (show (m.kind == 11) = false by rw [hk]; rfl) (show (m.kind == 12) = false by rw [hk]; rfl))))))))))))))) ?_
    refine c_mSigned ?_
    refine zH (show ownK m.kind = false by rw [hk]; rfl) ?_
    exact (j.as (by rw [← hQ]; simp [zkb, zrL, hk, show ownK 7 = false from rfl])).done hl hK
end Go.Proofs.YtpgahkdjkanblaaGreat

/- Contracts: which view-changes and new views may be, as messages: bare, Check: the program's. -/
set_option maxRecDepth 100000
set_option linter.unusedSimpArgs false
set_option linter.unusedVariables false
namespace Go.Proofs.YtpgahkdjkanblaaGreat
open Go.AW

theorem c_bare7 {σ : List zf} {m : zgs} (hk : m.kind = 7) {K : KT} (hK : K (zqx (zrI m)) σ) : zm Tryz.prog zjN [zqx m] σ K := by
  refine zc znI.is rfl fun hl _ => znI.goes ?_
  simp only [znW, iN, bT, bF, eN]
  refine zH (zi (show (m.kind == 1) = false by rw [hk]; rfl) (zi (show (m.kind == 2) = false by rw [hk]; rfl) (zi (show (m.kind == 3) = false by rw [hk]; rfl) (zi (show (m.kind == 4) = false by rw [hk]; rfl) (zi (show (m.kind == 5) = false by rw [hk]; rfl) (zi (show (m.kind == 6) = false by rw [hk]; rfl) (zi (show (m.kind == 7) = true by rw [hk]; rfl) (zi (show (m.kind == 8) = false by rw [hk]; rfl) (zi (show (m.kind == 9) = false by rw [hk]; rfl) (zi (show (m.kind == 10) = false by rw [hk]; rfl) (zi (show (m.kind == 11) = false by rw [hk]; rfl) (show (m.kind == 12) = false by rw [hk]; rfl)))))))))))) ?_
  refine c_mSigned ?_
  refine zH (show ownK m.kind = false by rw [hk]; rfl) ?_
  refine zq hl ?_
  simp only [zrI, hk] at hK
  rw [hk]
  exact hK
theorem noPf_small : zvI zqm := ⟨by decide, by decide, by decide, by decide, by decide, by simp [zqm, zny], by simp [zqm, zny], by simp [zqm, zny], by simp [zqm]⟩
theorem zrZ : zdX zlR := ⟨⟨by decide, by simp [zlR]⟩, ⟨by decide, by simp [zlR]⟩, by decide, by decide, by simp [zlR], by decide, by simp [zlR], noPf_small, by decide, by decide⟩
theorem ite_small {c : Prop} [h : Decidable c] {a b : zgs} (ha : zdX a) (hb : zdX b) : zdX (if c then a else b) := by
  cases h
  · rw [if_neg ‹_›]; exact hb
  · rw [if_pos ‹_›]; exact ha
theorem zvm {m : zgs} (h : zdX m) : zdX (zrI m) := by
  obtain ⟨h1, h2, h3, h4, h5, h6, h7, h8, h9, h10⟩ := h
  obtain ⟨n1, n2, n3, n4, n5, n6, n7, n8, n9, n10⟩ := zrZ
  unfold zrI
  repeat' refine ite_small ?_ ?_
  all_goals constructor <;> assumption
theorem gq56 {A P Q : Prop} (a : A) (h : Q) (e : A → Hd Q → P := by intro a h; (repeat' first | simp -dsimp only [↓zey, ↓zay, ↓zbs, ↓zez, ↓zeu, ↓zes, ↓zev, ↓zet, ↓zbx, ↓zbt, ↓zby, ↓zbu, ↓zew, ↓zbr, ↓zbz, ↓zbv, ↓zbA, ↓zbw, ↓zer, ↓zex, ↓zbp, ↓zbB, ↓zep, ↓zeo, ↓zeq, iN, bT, bF, eN, ↓zcv, ↓unC, ↓zU, ↓zI, ↓zJ, ↓zM, ↓zX, ↓zal, ↓zcX, ↓zai, ↓zaJ, ↓zW, ↓zg, ↓zn, ↓zbP, ↓zb, ↓zaf, ↓zD, ↓zaI, ↓zaQ, ↓zd, ↓zF, ↓zj, ↓zG, ↓zam, ↓zdc, ↓zdj, ↓zak, ↓zau, ↓zaL, ↓zaY, ↓zbh, ↓zo, ↓zaj, ↓zK, ↓zr, ↓zV, zdk, zbn, zbk, unA, zdu, bnd, zdG, zae, zO, zdW, dm, dm1, zR, zaF, zea, zdZ, zw, Q0, Q1, Q2, Q3, Q4, Q5, zY, zC, zt, zN, zE, Q6, Q7, Q8, Q9, Q10, Q11, Q12, Q13, Q14, Nat.reduceAdd, Q15, Int.reduceToNat, Q16, Q17, Q18, Q19, Q20, reduceIte, Q21, Q22, zA, rep, zZ, zeB, toD, zap, Q23, Q24, Q25, Q26, Q27, Q28, Nat.reduceLeDiff, Q29, Nat.reduceSub, Q30, Q31, Q32, sc, Q33, Q34, Q35, Q36, Q37, Q26, Q38, Q39, zpZ, zpW, zpT, zqa, zgd, zpX, zpU, zpY, zpV, zgc, zge, zqb, zqc, Bool.not_true, Bool.not_false, List.length_map, List.nil_append, a] | with_reducible refine zqd ?_ | fail); exact h.go) : P := e a ⟨h⟩
theorem c_mCheck7 {σ : List zf} {m : zgs} (hm : zdX m) (hk : m.kind = 7) {K : KT} (hK : K (.d (.int .i64 (zbU m))) σ) : zm Tryz.prog zfS [zqx m] σ K := by
  refine zc zmB.is rfl fun hl _ => zmB.goes ?_
  have fin : ∀ z, zbU m = z → K (.d (.int .i64 z)) σ := fun z h => h ▸ hK
  clear hK
  simp only [zmV, iN, bT, bF, eN]
  refine zao ?_
  refine c_aMsg7 (P := []) (m := m) (by rw [List.getElem?_append_right (by omega)]; simp [zhb, zbj]) hm hk ?_
  cases h1 : (zbj (zkb m) == 0)
  · refine gq56 h1 ?_
    refine zq hl ?_
    exact fin _ (by simp at h1; simp [zbU, h1])
  refine gq56 h1 ?_
  refine c_bare7 (m := m) hk ?_
  refine zao ?_
  refine c_mSame (a := m) (b := zrI m) hm (zvm hm) ?_
  cases h2 : decide (m = zrI m)
  · refine zao ?_
    refine zq hl ?_
    exact fin _ (by simp at h1 h2; simp [zbU, h1, h2])
  · refine zH h1 ?_
    refine zq hl ?_
    exact fin _ (by simp at h1 h2; simp [zbU, h1, ← h2])
end Go.Proofs.YtpgahkdjkanblaaGreat

/- Contracts: which view-changes and new views may be, as messages: the document's. -/
set_option maxRecDepth 100000
set_option linter.unusedSimpArgs false
set_option linter.unusedVariables false
namespace Go.Proofs.YtpgahkdjkanblaaGreat
open Go.AW

theorem c_kParts7 {σ : List zf} {m : zgs} (hm : zdX m) (hk : m.kind = 7) {K : KT} (hK : K (.d (.int .i64 (zbj (zkb m)))) σ) : zm Tryz.prog zoh [zqx m] σ K := by
  refine zc zsK.is rfl fun hl _ => zsK.goes ?_
  have fin : ∀ z, zbj (zkb m) = z → K (.d (.int .i64 z)) σ := fun z h => h ▸ hK
  clear hK
  have hcl : (zaP m.changes).length = m.changes.length := List.length_map ..
  have hcl1 := hm.changes
  have e0 : zbj (zkb m) = zbj (inE m.changes.length 1 1 :: (m.changes.map fun c => zbT c ++ [if c.src ≠ m.src ∨ c.view ≠ m.view then 100 else 0]).flatten) := by
    simp [zkb, zrL, hk, show ownK 7 = false from rfl]
  simp only [ztA, iN, bT, bF, eN]
  refine zao ?_
  refine zef ?_
  cases h1 : ((m.changes.length : Int) != 1)
  rotate_left
  · refine zH (zi (show (m.kind == 1) = false by rw [hk]; rfl) (zi (show (m.kind == 2) = false by rw [hk]; rfl) (zi (show (m.kind == 3) = false by rw [hk]; rfl) (zi (show (m.kind == 4) = false by rw [hk]; rfl) (zi (show (m.kind == 5) = false by rw [hk]; rfl) (zi (show (m.kind == 6) = false by rw [hk]; rfl) (zi (show (m.kind == 7) = true by rw [hk]; rfl) (zi (show (m.kind == 8) = false by rw [hk]; rfl) (zi (show (m.kind == 9) = false by rw [hk]; rfl) (zi (show (m.kind == 10) = false by rw [hk]; rfl) (zi (show (m.kind == 11) = false by rw [hk]; rfl) (zi (show (m.kind == 12) = false by rw [hk]; rfl) (zi hcl h1))))))))))))) ?_
    refine zq hl ?_
    refine fin _ ?_
    simp only [bne_iff_ne, ne_eq] at h1
    rw [e0, inE, if_pos (by omega)]; rfl
  simp only [bne_eq_false_iff_eq] at h1
  obtain ⟨c, hc⟩ : ∃ c, m.changes = [c] := List.length_eq_one_iff.1 (by omega)
  have hgx : (zaP m.changes)[0]? = some (zbm c) := by rw [hc]; rfl
  have hgl : (zaP m.changes).length = 1 := by rw [hc]; rfl
  have e1 : zbj (zkb m) = zbj (zbT c ++ [if c.src ≠ m.src ∨ c.view ≠ m.view then 100 else 0]) := by
    rw [e0, hc, inE, if_neg (by simp)]
    simp [zbj]
  have hpx := (hm.change c (by rw [hc]; simp)).1
  refine zjk (zi (show (m.kind == 1) = false by rw [hk]; rfl) (zi (show (m.kind == 2) = false by rw [hk]; rfl) (zi (show (m.kind == 3) = false by rw [hk]; rfl) (zi (show (m.kind == 4) = false by rw [hk]; rfl) (zi (show (m.kind == 5) = false by rw [hk]; rfl) (zi (show (m.kind == 6) = false by rw [hk]; rfl) (zi (show (m.kind == 7) = true by rw [hk]; rfl) (zi (show (m.kind == 8) = false by rw [hk]; rfl) (zi (show (m.kind == 9) = false by rw [hk]; rfl) (zi (show (m.kind == 10) = false by rw [hk]; rfl) (zi (show (m.kind == 11) = false by rw [hk]; rfl) (zi (show (m.kind == 12) = false by rw [hk]; rfl) (zi hgl hgx))))))))))))) ?_
  refine c_kChange (c := c) hpx ?_
  cases h2 : (zbj (zbT c) != 0)
  rotate_left
  · refine zH h2 ?_
    refine zq hl ?_
    exact fin _ (by rw [e1, fstE_appN (by simpa using h2)])
  rw [zoY (by simpa using h2)] at e1
  cases h3 : (m.src != c.src)
  · cases h4 : (m.view != c.view)
    · refine zjk (zi h2 (zi h3 (zi h4 (zi hgl hgx)))) ?_
      refine zq hl ?_
      refine fin _ ?_
      simp at h3 h4
      rw [e1, if_neg (by simp [h3, h4])]; rfl
    · refine zjk (zi h2 (zi h3 (zi h4 (zi hgl hgx)))) ?_
      refine zq hl ?_
      refine fin _ ?_
      simp at h4
      rw [e1, if_pos (.inr fun h => h4 h.symm)]; rfl
  · refine zjk (zi h2 (zi h3 (zi hgl hgx))) ?_
    refine zq hl ?_
    refine fin _ ?_
    simp at h3
    rw [e1, if_pos (.inl fun h => h3 h.symm)]; rfl
theorem c_kOnly7 {σ : List zf} {m : zgs} (hk : m.kind = 7) {K : KT} (hK : K (zqx (zrI m)) σ) : zm Tryz.prog zqo [zqx m] σ K := by
  refine zc zuL.is rfl fun hl _ => zuL.goes ?_
  simp only [zvs, iN, bT, bF, eN]
  refine zH (zi (show (m.kind == 1) = false by rw [hk]; rfl) (zi (show (m.kind == 2) = false by rw [hk]; rfl) (zi (show (m.kind == 3) = false by rw [hk]; rfl) (zi (show (m.kind == 4) = false by rw [hk]; rfl) (zi (show (m.kind == 5) = false by rw [hk]; rfl) (zi (show (m.kind == 6) = false by rw [hk]; rfl) (zi (show (m.kind == 7) = true by rw [hk]; rfl) (zi (show (m.kind == 8) = false by rw [hk]; rfl) (zi (show (m.kind == 9) = false by rw [hk]; rfl) (zi (show (m.kind == 10) = false by rw [hk]; rfl) (zi (show (m.kind == 11) = false by rw [hk]; rfl) (show (m.kind == 12) = false by rw [hk]; rfl)))))))))))) ?_
  refine zq hl ?_
  simp only [zrI, hk] at hK
  rw [hk]
  exact hK
end Go.Proofs.YtpgahkdjkanblaaGreat
