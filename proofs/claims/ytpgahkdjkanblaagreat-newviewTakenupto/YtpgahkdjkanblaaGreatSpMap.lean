/- Maps keyed by integers: what is found after a put. -/
import Derived.Test.YtpgahkdjkanblaaGreatAwEnd
import Derived.Test.YtpgahkdjkanblaaGreatQu1
import Derived.Test.YtpgahkdjkanblaaGreatRq1
import Derived.Test.YtpgahkdjkanblaaGreatSpOp
set_option linter.all false
set_option linter.unusedSimpArgs false
namespace Go.AW

abbrev zuQ (l : List (Int × AV)) : List (AV × AV) := l.map fun e => (.d (.int .i64 e.1), e.2)
def zhp (s : Int) : List (Int × AV) → Nat → Option (Nat × AV)
  | [], _ => none
  | e :: r, i => if s = e.1 then some (i, e.2) else zhp s r (i + 1)
theorem zqp (s : Int) : ∀ (l : List (Int × AV)) (i : Nat), zmv .int (.d (.int .i64 s)) (zuQ l) i = some (zhp s l i)
  | [], _ => rfl
  | e :: r, i => by
    simp only [zuQ, List.map_cons, zmv, zho, if_true, zhp]
    by_cases h : s = e.1
    · simp [h]
    · have : (s == e.1) = false := by simpa using h
      simp only [this, if_neg h]
      exact zqp s r (i + 1)
theorem zra {s t : Int} {x : AV} : ∀ {l : List (Int × AV)} {i : Nat}, (zhp t l i = none ∨ s ≠ t) → (zhp s (l ++ [(t, x)]) i).map (·.2) = if s = t then some x else (zhp s l i).map (·.2)
  | [], i, h => by
    by_cases e : s = t <;> simp [zhp, e]
  | e :: r, i, h => by
    simp only [List.cons_append, zhp]
    by_cases h1 : s = e.1
    · rw [if_pos h1, if_pos h1]
      by_cases e2 : s = t
      · rcases h with h | h
        · simp only [zhp] at h
          rw [if_pos (by rw [← e2, h1])] at h
          cases h
        · exact absurd e2 h
      · rw [if_neg e2]
    · rw [if_neg h1, if_neg h1]
      refine zra ?_
      rcases h with h | h
      · left
        simp only [zhp] at h
        split at h
        · cases h
        · exact h
      · exact .inr h
theorem findI_ge {s : Int} : ∀ {l : List (Int × AV)} {i j : Nat} {v : AV}, zhp s l i = some (j, v) → i ≤ j
  | [], _, _, _, h => by simp [zhp] at h
  | e :: r, i, j, v, h => by
    simp only [zhp] at h
    split at h
    · simp at h; omega
    · have := findI_ge h; omega
theorem findI_set {s t : Int} {x v : AV} : ∀ {l : List (Int × AV)} {i j : Nat}, zhp t l i = some (i + j, v) → (zhp s (l.set j (t, x)) i).map (·.2) = if s = t then some x else (zhp s l i).map (·.2)
  | [], i, j, h => by simp [zhp] at h
  | e :: r, i, 0, h => by
    simp only [zhp] at h
    split at h
    · rename_i h1
      simp only [List.set_cons_zero, zhp]
      by_cases e2 : s = t
      · simp [e2]
      · rw [if_neg e2, if_neg e2, if_neg (by rw [← h1]; exact e2)]
    · have := findI_ge h; omega
  | e :: r, i, j + 1, h => by
    simp only [zhp] at h
    split at h
    · simp at h
    · rename_i h1
      simp only [List.set_cons_succ, zhp]
      have ih := findI_set (s := s) (x := x) (l := r) (i := i + 1) (j := j) (by rw [h]; congr 2; omega)
      by_cases h2 : s = e.1
      · rw [if_pos h2, if_pos h2, if_neg (by rw [h2]; exact fun h => h1 h.symm)]
      · rw [if_neg h2, if_neg h2]
        exact ih
def znp (l : List (Int × AV)) (f : Int → Option AV) : Prop := ∀ s, (zhp s l 0).map (·.2) = f s
theorem znp.nil : znp [] fun _ => none := fun _ => rfl
theorem znp.none {l : List (Int × AV)} {f : Int → Option AV} (h : znp l f) {s : Int} (hs : f s = .none) : zmv .int (.d (.int .i64 s)) (zuQ l) 0 = some .none := by
  rw [zqp]
  have := h s
  rw [hs] at this
  cases e : zhp s l 0 with
  | none => rfl
  | some p => rw [e] at this; simp at this
theorem znp.some {l : List (Int × AV)} {f : Int → Option AV} (h : znp l f) {s : Int} {v : AV} (hs : f s = .some v) : ∃ i, zmv .int (.d (.int .i64 s)) (zuQ l) 0 = .some (.some (i, v)) ∧ zhp s l 0 = .some (i, v) := by
  rw [zqp]
  have := h s
  rw [hs] at this
  cases e : zhp s l 0 with
  | none => rw [e] at this; simp at this
  | some p =>
    rw [e] at this
    obtain ⟨i, w⟩ := p
    simp at this
    subst this
    exact ⟨i, rfl, rfl⟩
theorem znp.add {l : List (Int × AV)} {f : Int → Option AV} (h : znp l f) {t : Int} {x : AV} (ht : f t = .none) : znp (l ++ [(t, x)]) fun s => if s = t then .some x else f s := by
  intro s
  rw [zra, h s]
  left
  have := h t
  rw [ht] at this
  cases e : zhp t l 0 with
  | none => rfl
  | some p => rw [e] at this; simp at this
theorem znp.put {l : List (Int × AV)} {f : Int → Option AV} (h : znp l f) {t : Int} {x v : AV} {i : Nat} (ht : zhp t l 0 = .some (i, v)) : znp (l.set i (t, x)) fun s => if s = t then .some x else f s := by
  intro s
  rw [findI_set (v := v) (by rw [Nat.zero_add]; exact ht), h s]
theorem ents_set (l : List (Int × AV)) (i : Nat) (t : Int) (x : AV) : (zuQ l).set i (.d (.int .i64 t), x) = zuQ (l.set i (t, x)) := by
  simp only [zuQ, List.map_set]
theorem ents_add (l : List (Int × AV)) (t : Int) (x : AV) : zuQ l ++ [(.d (.int .i64 t), x)] = zuQ (l ++ [(t, x)]) := by simp [zuQ]
end Go.AW

/- Contracts: what is wrong with view-changes; what a new view goes on with. -/
set_option maxRecDepth 100000
set_option linter.unusedSimpArgs false
set_option linter.unusedVariables false
namespace Go.Proofs.YtpgahkdjkanblaaGreat
open Go.AW

theorem gq14 {A P Q : Prop} (a : A) (h : Q) (e : A → P = Q := by intro a; simp -dsimp only [↓zfa, ↓zat, ↓zbt, ↓zfb, ↓zeW, ↓zeU, ↓zeX, ↓zeV, ↓zby, ↓zbu, ↓zbz, ↓zbv, ↓zeY, ↓zbs, ↓zbA, ↓zbw, ↓zbB, ↓zbx, ↓zeT, ↓zeZ, ↓zbr, ↓zbC, ↓zeQ, ↓zeP, ↓zeS, iN, bT, bF, eN, ↓zcO, ↓unC, ↓zP, ↓zG, ↓zH, ↓zK, ↓zW, ↓zaz, ↓zdn, ↓zau, ↓zbf, ↓zQ, ↓zg, ↓zf, ↓zbY, ↓zb, ↓zae, ↓zL, ↓zaN, ↓zaO, ↓zc, ↓zB, ↓zj, ↓zE, ↓zY, ↓zdz, ↓zdA, ↓zam, ↓zap, ↓zaK, ↓zaV, ↓zbj, ↓zm, ↓zai, ↓zJ, ↓zr, ↓zT, zdD, zbo, zbk, unA, zcZ, bnd, zdZ, zac, zR, zdT, dm, dm1, zI, zan, zeq, zep, zZ, Q0, Q1, Q2, Q3, Q4, Q5, zX, zn, zo, zF, zA, Q6, Q7, Q8, Q9, Q10, Q11, Q12, Q13, Q14, Nat.reduceAdd, Q15, Int.reduceToNat, Q16, Q17, Q18, Q19, Q20, reduceIte, Q21, Q22, zw, rep, zU, zeo, toD, zaa, Q23, Q24, Q25, Q26, Q27, Q28, Nat.reduceLeDiff, Q29, Nat.reduceSub, Q30, Q31, Q32, sc, Q33, Q34, Q35, List.length_map, a]; rfl) : P := (e a).mpr h
theorem gq15 {A P Q : Prop} (a : A) (h : Q) (e : A → P = Q := by intro a; simp -dsimp only [↓zfa, ↓zat, ↓zbt, ↓zfb, ↓zeW, ↓zeU, ↓zeX, ↓zeV, ↓zby, ↓zbu, ↓zbz, ↓zbv, ↓zeY, ↓zbs, ↓zbA, ↓zbw, ↓zbB, ↓zbx, ↓zeT, ↓zeZ, ↓zbr, ↓zbC, ↓zeQ, ↓zeP, ↓zeS, iN, bT, bF, eN, ↓zcO, ↓unC, ↓zP, ↓zG, ↓zH, ↓zK, ↓zW, ↓zaz, ↓zdn, ↓zau, ↓zbf, ↓zQ, ↓zg, ↓zf, ↓zbY, ↓zb, ↓zae, ↓zL, ↓zaN, ↓zaO, ↓zc, ↓zB, ↓zj, ↓zE, ↓zY, ↓zdz, ↓zdA, ↓zam, ↓zap, ↓zaK, ↓zaV, ↓zbj, ↓zm, ↓zai, ↓zJ, ↓zr, ↓zT, zdD, zbo, zbk, unA, zcZ, bnd, zdZ, zac, zR, zdT, dm, dm1, zI, zan, zeq, zep, zZ, Q0, Q1, Q2, Q3, Q4, Q5, zX, zn, zo, zF, zA, Q6, Q7, Q8, Q9, Q10, Q11, Q12, Q13, Q14, Nat.reduceAdd, Q15, Int.reduceToNat, Q16, Q17, Q18, Q19, Q20, reduceIte, Q21, Q22, zw, rep, zU, zeo, toD, zaa, Q23, Q24, Q25, Q26, Q27, Q28, Nat.reduceLeDiff, Q29, Nat.reduceSub, Q30, Q31, Q32, sc, Q33, Q34, Q35, zbH, a]; rfl) : P := (e a).mpr h
theorem c_may {σ : List zd} {f view : Int} {cs : List zO} (hn : cs.length ≤ 1073741824) {K : KT} (hK : K (.d (.int .i64 (zmw f view cs))) σ) :
    zl Tryz.prog ziF [.d (.int .i64 f), .d (.int .i64 view), .d (.slice (zaL cs))] σ K := by
  refine ze zpt.is rfl fun hl _ => zpt.goes ?_
  have fin : ∀ z, zmw f view cs = z → K (.d (.int .i64 z)) σ := fun z h => h ▸ hK
  clear hK
  simp only [zpO, iN, bT, bF, eN]
  (refine gq2 ?_; try with_reducible exact True.intro)
  refine zjs ?_
  cases h0 : (zci f != 0)
  rotate_left
  · (refine gq1 h0 ?_; try with_reducible exact True.intro)
    refine zV hl ?_
    exact fin _ (by rw [zmw, if_pos (by simpa using h0)])
  have h0' : ¬ zci f ≠ 0 := by simpa using h0
  cases h1 : decide (view < 1)
  rotate_left
  · (refine gq1 (zS h0 h1) ?_; try with_reducible exact True.intro)
    refine zV hl ?_
    exact fin _ (by rw [zmw, if_neg h0', if_pos (by simp at h1; omega)])
  cases h2 : decide (view > 9007199254740992)
  rotate_left
  · (refine gq1 (zS h0 (zS h1 h2)) ?_; try with_reducible exact True.intro)
    refine zV hl ?_
    exact fin _ (by rw [zmw, if_neg h0', if_pos (by simp at h2; omega)])
  have h12 : ¬ (view < 1 ∨ view > 9007199254740992) := by simp at h1 h2; omega
  (refine gq14 (zS h0 (zS h1 h2)) ?_; try with_reducible exact True.intro)
  refine zy cs.length (fun k vs s => vs = [.d (.int .i64 (zlj cs k)), .d (.int .i64 k)] ∧ (∃ T, s = σ ++ T) ∧ zmD f cs k = true) ⟨rfl, ⟨[], by simp⟩, rfl⟩ ?_
  rintro k vs s hk ⟨rfl, ⟨T, rfl⟩, hok⟩
  (refine gq11 ?_; try with_reducible exact True.intro)
  refine zaU (fun h => ?_) (fun h => ?_)
  · have hlt : k < cs.length := by simp at h; omega
    have hx : cs[k]? = some cs[k] := by simp [hlt]
    have hgx := zal (f := zbH) hx
    obtain ⟨c, hce⟩ : ∃ c, cs[k] = c := ⟨_, rfl⟩
    rw [hce] at hx hgx
    have hp : zlj cs (k + 1) = c.src := by simp only [zlj, hx]
    (refine gq15 hgx ?_; try with_reducible exact True.intro)
    have hbad : zuu f cs k = false → zmw f view cs = 1 := fun h => by rw [zmw, if_neg h0', if_neg h12, if_pos (srcsOk_bad hlt h)]
    have hval : zuu f cs k = decide (zlj cs k < c.src ∧ c.src < zaB 3 f) := by simp only [zuu, hx]
    cases h3 : decide (c.src ≤ zlj cs k)
    rotate_left
    · (refine gq15 (zS hgx h3) ?_; try with_reducible exact True.intro)
      repeat' ((with_reducible refine And.intro ?_ ?_); focus (first | omega | rfl | decide))
      try (refine gq15 (zS hgx h3) ?_; try with_reducible exact True.intro)
      refine zV hl ?_
      exact fin _ (hbad (by rw [hval]; simp at h3 ⊢; omega))
    · (refine gq15 (zS hgx h3) ?_; try with_reducible exact True.intro)
      repeat' ((with_reducible refine And.intro ?_ ?_); focus (first | omega | rfl | decide))
      try (refine gq15 (zS hgx h3) ?_; try with_reducible exact True.intro)
      refine zjt ?_
      cases h4 : decide (c.src ≥ zaB 3 f)
      rotate_left
      · (refine gq15 (zS hgx (zS h3 h4)) ?_; try with_reducible exact True.intro)
        repeat' ((with_reducible refine And.intro ?_ ?_); focus (first | omega | rfl | decide))
        try (refine gq15 (zS hgx (zS h3 h4)) ?_; try with_reducible exact True.intro)
        refine zV hl ?_
        exact fin _ (hbad (by rw [hval]; simp at h4 ⊢; omega))
      · (refine gq15 (zS hgx (zS h3 h4)) ?_; try with_reducible exact True.intro)
        repeat' ((with_reducible refine And.intro ?_ ?_); focus (first | omega | rfl | decide))
        try (refine gq15 (zS hgx (zS h3 h4)) ?_; try with_reducible exact True.intro)
        refine zbp.next hlt ⟨?_, ⟨_, rfl⟩, ?_⟩
        · rw [hp, show (k : Int) + 1 = ((k + 1 : Nat) : Int) by omega, zbE (by omega) (by omega)]
        · rw [srcsOk_succ, hok, hval]; simp at h3 h4 ⊢; omega
  · have hn : k = cs.length := by simp at h; omega
    (refine gq11 ?_; try with_reducible exact True.intro)
    refine c_quBig ?_
    cases h5 : decide ((cs.length : Int) < zaB 2 f)
    all_goals
      (refine gq14 h5 ?_; try with_reducible exact True.intro)
      refine zV hl ?_
    · exact fin _ (by rw [zmw, if_neg h0', if_neg h12, if_neg (by rw [← hn, hok]; simp), if_neg (by simpa using h5)])
    · exact fin _ (by rw [zmw, if_neg h0', if_neg h12, if_neg (by rw [← hn, hok]; simp), if_pos (by simpa using h5)])
end Go.Proofs.YtpgahkdjkanblaaGreat

/- Contracts: the reference's latest batch for a number. -/
set_option maxRecDepth 100000
set_option linter.unusedSimpArgs false
set_option linter.unusedVariables false
namespace Go.Proofs.YtpgahkdjkanblaaGreat
open Go.AW

def latC : Option zca → List AV
  | none => [.d (.int .i64 0), .d (.int .i64 0), .d (.int .i64 0), .d (.int .i64 0), .d (.int .i64 0), .exact [], .exact []]
  | some p => [.d (.int .i64 p.view), .d (.int .i64 p.seq), .d (.int .i64 p.dig), .d (.int .i64 p.fkey), .d (.int .i64 p.fdig), .d (.slice (zab p.signs)), .d (.slice (zbD p.batch))]
def ztp (cs : List zO) : Prop := cs.length ≤ 1073741824 ∧ ∀ c ∈ cs, c.cert.signs.length ≤ 1073741824 ∧ c.above.length ≤ 1073741824 ∧ ∀ p ∈ c.above, ziR p.batch
end Go.Proofs.YtpgahkdjkanblaaGreat
