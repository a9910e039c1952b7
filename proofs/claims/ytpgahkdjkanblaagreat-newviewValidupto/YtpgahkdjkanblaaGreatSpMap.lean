/- Maps keyed by integers: what is found after a put. -/
import Derived.Test.YtpgahkdjkanblaaGreatAwEnd
import Derived.Test.YtpgahkdjkanblaaGreatQu1
import Derived.Test.YtpgahkdjkanblaaGreatRq1
import Derived.Test.YtpgahkdjkanblaaGreatSpOp
set_option linter.all false
set_option linter.unusedSimpArgs false
namespace Go.AW

abbrev ents (l : List (Int × AV)) : List (AV × AV) := l.map fun e => (.d (.int .i64 e.1), e.2)
def zgO (s : Int) : List (Int × AV) → Nat → Option (Nat × AV)
  | [], _ => none
  | e :: r, i => if s = e.1 then some (i, e.2) else zgO s r (i + 1)
theorem zqz (s : Int) : ∀ (l : List (Int × AV)) (i : Nat), zlT .int (.d (.int .i64 s)) (ents l) i = some (zgO s l i)
  | [], _ => rfl
  | e :: r, i => by
    simp only [ents, List.map_cons, zlT, zgM, if_true, zgO]
    by_cases h : s = e.1
    · simp [h]
    · have : (s == e.1) = false := by simpa using h
      simp only [this, if_neg h]
      exact zqz s r (i + 1)
theorem zrd {s t : Int} {x : AV} : ∀ {l : List (Int × AV)} {i : Nat}, (zgO t l i = none ∨ s ≠ t) → (zgO s (l ++ [(t, x)]) i).map (·.2) = if s = t then some x else (zgO s l i).map (·.2)
  | [], i, h => by
    by_cases e : s = t <;> simp [zgO, e]
  | e :: r, i, h => by
    simp only [List.cons_append, zgO]
    by_cases h1 : s = e.1
    · rw [if_pos h1, if_pos h1]
      by_cases e2 : s = t
      · rcases h with h | h
        · simp only [zgO] at h
          rw [if_pos (by rw [← e2, h1])] at h
          cases h
        · exact absurd e2 h
      · rw [if_neg e2]
    · rw [if_neg h1, if_neg h1]
      refine zrd ?_
      rcases h with h | h
      · left
        simp only [zgO] at h
        split at h
        · cases h
        · exact h
      · exact .inr h
theorem findI_ge {s : Int} : ∀ {l : List (Int × AV)} {i j : Nat} {v : AV}, zgO s l i = some (j, v) → i ≤ j
  | [], _, _, _, h => by simp [zgO] at h
  | e :: r, i, j, v, h => by
    simp only [zgO] at h
    split at h
    · simp at h; omega
    · have := findI_ge h; omega
theorem findI_set {s t : Int} {x v : AV} : ∀ {l : List (Int × AV)} {i j : Nat}, zgO t l i = some (i + j, v) → (zgO s (l.set j (t, x)) i).map (·.2) = if s = t then some x else (zgO s l i).map (·.2)
  | [], i, j, h => by simp [zgO] at h
  | e :: r, i, 0, h => by
    simp only [zgO] at h
    split at h
    · rename_i h1
      simp only [List.set_cons_zero, zgO]
      by_cases e2 : s = t
      · simp [e2]
      · rw [if_neg e2, if_neg e2, if_neg (by rw [← h1]; exact e2)]
    · have := findI_ge h; omega
  | e :: r, i, j + 1, h => by
    simp only [zgO] at h
    split at h
    · simp at h
    · rename_i h1
      simp only [List.set_cons_succ, zgO]
      have ih := findI_set (s := s) (x := x) (l := r) (i := i + 1) (j := j) (by rw [h]; congr 2; omega)
      by_cases h2 : s = e.1
      · rw [if_pos h2, if_pos h2, if_neg (by rw [h2]; exact fun h => h1 h.symm)]
      · rw [if_neg h2, if_neg h2]
        exact ih
def zmY (l : List (Int × AV)) (f : Int → Option AV) : Prop := ∀ s, (zgO s l 0).map (·.2) = f s
theorem zmY.nil : zmY [] fun _ => none := fun _ => rfl
theorem zmY.none {l : List (Int × AV)} {f : Int → Option AV} (h : zmY l f) {s : Int} (hs : f s = .none) : zlT .int (.d (.int .i64 s)) (ents l) 0 = some .none := by
  rw [zqz]
  have := h s
  rw [hs] at this
  cases e : zgO s l 0 with
  | none => rfl
  | some p => rw [e] at this; simp at this
theorem zmY.some {l : List (Int × AV)} {f : Int → Option AV} (h : zmY l f) {s : Int} {v : AV} (hs : f s = .some v) : ∃ i, zlT .int (.d (.int .i64 s)) (ents l) 0 = .some (.some (i, v)) ∧ zgO s l 0 = .some (i, v) := by
  rw [zqz]
  have := h s
  rw [hs] at this
  cases e : zgO s l 0 with
  | none => rw [e] at this; simp at this
  | some p =>
    rw [e] at this
    obtain ⟨i, w⟩ := p
    simp at this
    subst this
    exact ⟨i, rfl, rfl⟩
theorem zmY.add {l : List (Int × AV)} {f : Int → Option AV} (h : zmY l f) {t : Int} {x : AV} (ht : f t = .none) : zmY (l ++ [(t, x)]) fun s => if s = t then .some x else f s := by
  intro s
  rw [zrd, h s]
  left
  have := h t
  rw [ht] at this
  cases e : zgO t l 0 with
  | none => rfl
  | some p => rw [e] at this; simp at this
theorem zmY.put {l : List (Int × AV)} {f : Int → Option AV} (h : zmY l f) {t : Int} {x v : AV} {i : Nat} (ht : zgO t l 0 = .some (i, v)) : zmY (l.set i (t, x)) fun s => if s = t then .some x else f s := by
  intro s
  rw [findI_set (v := v) (by rw [Nat.zero_add]; exact ht), h s]
theorem ents_set (l : List (Int × AV)) (i : Nat) (t : Int) (x : AV) : (ents l).set i (.d (.int .i64 t), x) = ents (l.set i (t, x)) := by
  simp only [ents, List.map_set]
theorem ents_add (l : List (Int × AV)) (t : Int) (x : AV) : ents l ++ [(.d (.int .i64 t), x)] = ents (l ++ [(t, x)]) := by simp [ents]
end Go.AW

/- Contracts: what is wrong with view-changes; what a new view goes on with. -/
set_option maxRecDepth 100000
set_option linter.unusedSimpArgs false
set_option linter.unusedVariables false
namespace Go.Proofs.YtpgahkdjkanblaaGreat
open Go.AW

theorem gq14 {A P Q : Prop} (a : A) (h : Q) (e : A → P = Q := by intro a; simp -dsimp only [↓zey, ↓zay, ↓zbs, ↓zez, ↓zeu, ↓zes, ↓zev, ↓zet, ↓zbx, ↓zbt, ↓zby, ↓zbu, ↓zew, ↓zbr, ↓zbz, ↓zbv, ↓zbA, ↓zbw, ↓zer, ↓zex, ↓zbp, ↓zbB, ↓zep, ↓zeo, ↓zeq, iN, bT, bF, eN, ↓zcv, ↓unC, ↓zU, ↓zI, ↓zJ, ↓zM, ↓zX, ↓zal, ↓zcX, ↓zai, ↓zaJ, ↓zW, ↓zg, ↓zn, ↓zbP, ↓zb, ↓zaf, ↓zD, ↓zaI, ↓zaQ, ↓zd, ↓zF, ↓zj, ↓zG, ↓zam, ↓zdc, ↓zdj, ↓zak, ↓zau, ↓zaL, ↓zaY, ↓zbh, ↓zo, ↓zaj, ↓zK, ↓zr, ↓zV, zdk, zbn, zbk, unA, zdu, bnd, zdG, zae, zO, zdW, dm, dm1, zR, zaF, zea, zdZ, zw, Q0, Q1, Q2, Q3, Q4, Q5, zY, zC, zt, zN, zE, Q6, Q7, Q8, Q9, Q10, Q11, Q12, Q13, Q14, Nat.reduceAdd, Q15, Int.reduceToNat, Q16, Q17, Q18, Q19, Q20, reduceIte, Q21, Q22, zA, rep, zZ, zeB, toD, zap, Q23, Q24, Q25, Q26, Q27, Q28, Nat.reduceLeDiff, Q29, Nat.reduceSub, Q30, Q31, Q32, sc, Q33, Q34, Q35, List.length_map, a]; rfl) : P := (e a).mpr h
theorem gq15 {A P Q : Prop} (a : A) (h : Q) (e : A → P = Q := by intro a; simp -dsimp only [↓zey, ↓zay, ↓zbs, ↓zez, ↓zeu, ↓zes, ↓zev, ↓zet, ↓zbx, ↓zbt, ↓zby, ↓zbu, ↓zew, ↓zbr, ↓zbz, ↓zbv, ↓zbA, ↓zbw, ↓zer, ↓zex, ↓zbp, ↓zbB, ↓zep, ↓zeo, ↓zeq, iN, bT, bF, eN, ↓zcv, ↓unC, ↓zU, ↓zI, ↓zJ, ↓zM, ↓zX, ↓zal, ↓zcX, ↓zai, ↓zaJ, ↓zW, ↓zg, ↓zn, ↓zbP, ↓zb, ↓zaf, ↓zD, ↓zaI, ↓zaQ, ↓zd, ↓zF, ↓zj, ↓zG, ↓zam, ↓zdc, ↓zdj, ↓zak, ↓zau, ↓zaL, ↓zaY, ↓zbh, ↓zo, ↓zaj, ↓zK, ↓zr, ↓zV, zdk, zbn, zbk, unA, zdu, bnd, zdG, zae, zO, zdW, dm, dm1, zR, zaF, zea, zdZ, zw, Q0, Q1, Q2, Q3, Q4, Q5, zY, zC, zt, zN, zE, Q6, Q7, Q8, Q9, Q10, Q11, Q12, Q13, Q14, Nat.reduceAdd, Q15, Int.reduceToNat, Q16, Q17, Q18, Q19, Q20, reduceIte, Q21, Q22, zA, rep, zZ, zeB, toD, zap, Q23, Q24, Q25, Q26, Q27, Q28, Nat.reduceLeDiff, Q29, Nat.reduceSub, Q30, Q31, Q32, sc, Q33, Q34, Q35, zbm, a]; rfl) : P := (e a).mpr h
theorem c_may {σ : List zf} {f view : Int} {cs : List zaa} (hn : cs.length ≤ 1073741824) {K : KT} (hK : K (.d (.int .i64 (mayF f view cs))) σ) :
    zm Tryz.prog zkT [.d (.int .i64 f), .d (.int .i64 view), .d (.slice (zaP cs))] σ K := by
  refine zc zpl.is rfl fun hl _ => zpl.goes ?_
  have fin : ∀ z, mayF f view cs = z → K (.d (.int .i64 z)) σ := fun z h => h ▸ hK
  clear hK
  simp only [zpM, iN, bT, bF, eN]
  (refine gq2 ?_; try with_reducible exact True.intro)
  refine zks ?_
  cases h0 : (zbK f != 0)
  rotate_left
  · (refine gq1 h0 ?_; try with_reducible exact True.intro)
    refine zq hl ?_
    exact fin _ (by rw [mayF, if_pos (by simpa using h0)])
  have h0' : ¬ zbK f ≠ 0 := by simpa using h0
  cases h1 : decide (view < 1)
  rotate_left
  · (refine gq1 (zB h0 h1) ?_; try with_reducible exact True.intro)
    refine zq hl ?_
    exact fin _ (by rw [mayF, if_neg h0', if_pos (by simp at h1; omega)])
  cases h2 : decide (view > 9007199254740992)
  rotate_left
  · (refine gq1 (zB h0 (zB h1 h2)) ?_; try with_reducible exact True.intro)
    refine zq hl ?_
    exact fin _ (by rw [mayF, if_neg h0', if_pos (by simp at h2; omega)])
  have h12 : ¬ (view < 1 ∨ view > 9007199254740992) := by simp at h1 h2; omega
  (refine gq14 (zB h0 (zB h1 h2)) ?_; try with_reducible exact True.intro)
  refine zl cs.length (fun k vs s => vs = [.d (.int .i64 (zql cs k)), .d (.int .i64 k)] ∧ (∃ T, s = σ ++ T) ∧ zrX f cs k = true) ⟨rfl, ⟨[], by simp⟩, rfl⟩ ?_
  rintro k vs s hk ⟨rfl, ⟨T, rfl⟩, hok⟩
  (refine gq11 ?_; try with_reducible exact True.intro)
  refine zS (fun h => ?_) (fun h => ?_)
  · have hlt : k < cs.length := by simp at h; omega
    have hx : cs[k]? = some cs[k] := by simp [hlt]
    have hgx := zQ (f := zbm) hx
    obtain ⟨c, hce⟩ : ∃ c, cs[k] = c := ⟨_, rfl⟩
    rw [hce] at hx hgx
    have hp : zql cs (k + 1) = c.src := by simp only [zql, hx]
    (refine gq15 hgx ?_; try with_reducible exact True.intro)
    have hbad : srcOk f cs k = false → mayF f view cs = 1 := fun h => by rw [mayF, if_neg h0', if_neg h12, if_pos (srcsOk_bad hlt h)]
    have hval : srcOk f cs k = decide (zql cs k < c.src ∧ c.src < zcJ 3 f) := by simp only [srcOk, hx]
    cases h3 : decide (c.src ≤ zql cs k)
    rotate_left
    · (refine gq15 (zB hgx h3) ?_; try with_reducible exact True.intro)
      repeat' ((with_reducible refine And.intro ?_ ?_); focus (first | omega | rfl | decide))
      try (refine gq15 (zB hgx h3) ?_; try with_reducible exact True.intro)
      refine zq hl ?_
      exact fin _ (hbad (by rw [hval]; simp at h3 ⊢; omega))
    · (refine gq15 (zB hgx h3) ?_; try with_reducible exact True.intro)
      repeat' ((with_reducible refine And.intro ?_ ?_); focus (first | omega | rfl | decide))
      try (refine gq15 (zB hgx h3) ?_; try with_reducible exact True.intro)
      refine ziM ?_
      cases h4 : decide (c.src ≥ zcJ 3 f)
      rotate_left
      · (refine gq15 (zB hgx (zB h3 h4)) ?_; try with_reducible exact True.intro)
        repeat' ((with_reducible refine And.intro ?_ ?_); focus (first | omega | rfl | decide))
        try (refine gq15 (zB hgx (zB h3 h4)) ?_; try with_reducible exact True.intro)
        refine zq hl ?_
        exact fin _ (hbad (by rw [hval]; simp at h4 ⊢; omega))
      · (refine gq15 (zB hgx (zB h3 h4)) ?_; try with_reducible exact True.intro)
        repeat' ((with_reducible refine And.intro ?_ ?_); focus (first | omega | rfl | decide))
        try (refine gq15 (zB hgx (zB h3 h4)) ?_; try with_reducible exact True.intro)
        refine zaG.next hlt ⟨?_, ⟨_, rfl⟩, ?_⟩
        · rw [hp, show (k : Int) + 1 = ((k + 1 : Nat) : Int) by omega, zat (by omega) (by omega)]
        · rw [srcsOk_succ, hok, hval]; simp at h3 h4 ⊢; omega
  · have hn : k = cs.length := by simp at h; omega
    (refine gq11 ?_; try with_reducible exact True.intro)
    refine c_quBig ?_
    cases h5 : decide ((cs.length : Int) < zcJ 2 f)
    all_goals
      (refine gq14 h5 ?_; try with_reducible exact True.intro)
      refine zq hl ?_
    · exact fin _ (by rw [mayF, if_neg h0', if_neg h12, if_neg (by rw [← hn, hok]; simp), if_neg (by simpa using h5)])
    · exact fin _ (by rw [mayF, if_neg h0', if_neg h12, if_neg (by rw [← hn, hok]; simp), if_pos (by simpa using h5)])
end Go.Proofs.YtpgahkdjkanblaaGreat

/- Contracts: the reference's latest batch for a number. -/
set_option maxRecDepth 100000
set_option linter.unusedSimpArgs false
set_option linter.unusedVariables false
namespace Go.Proofs.YtpgahkdjkanblaaGreat
open Go.AW

def latC : Option zbW → List AV
  | none => [.d (.int .i64 0), .d (.int .i64 0), .d (.int .i64 0), .d (.int .i64 0), .d (.int .i64 0), .exact [], .exact []]
  | some p => [.d (.int .i64 p.view), .d (.int .i64 p.seq), .d (.int .i64 p.dig), .d (.int .i64 p.fkey), .d (.int .i64 p.fdig), .d (.slice (zas p.signs)), .d (.slice (zbo p.batch))]
def smallC (cs : List zaa) : Prop := cs.length ≤ 1073741824 ∧ ∀ c ∈ cs, c.cert.signs.length ≤ 1073741824 ∧ c.above.length ≤ 1073741824 ∧ ∀ p ∈ c.above, zhF p.batch
end Go.Proofs.YtpgahkdjkanblaaGreat

/- Rows of the call's own that are let go: what they hold is data from then on. A function that only reads may be told of rows as of data. -/
set_option linter.unusedSimpArgs false
set_option linter.unusedVariables false
namespace Go.AW

section

variable {P : Program} {w : World} {L : Nat → Loc} {σ : List zf}

end

end Go.AW

/- Ends of calls: what was made first zoJ; what a contract leaves may be told otherwise. -/
set_option linter.unusedSimpArgs false
set_option linter.unusedVariables false
namespace Go.AW
section
variable {P : Program} {σ : List zf}

theorem renId_range {n m id : Nat} (h : id < n + m) : znr n (List.range' n m) id = some id := by
  unfold znr
  split
  · rfl
  · rename_i hn
    have : ∀ (m a : Nat), a ≤ id → id < a + m → idxK (List.range' a m) id a = some id := by
      intro m
      induction m with
      | zero => intro a h1 h2; omega
      | succ m ih =>
        intro a h1 h2
        simp only [List.range'_succ, idxK]
        by_cases e : a = id
        · subst e; simp
        · have e' : ¬ id = a := fun h => e h.symm
          first
            | (rw [if_neg e]; exact ih (a + 1) (by omega) (by omega))
            | (rw [if_neg e']; exact ih (a + 1) (by omega) (by omega))
    exact this m n (by omega) h
theorem zuG : ∀ (os : List zf) (σ τ : List zf), getL (σ ++ (os ++ τ)) (List.range' σ.length os.length) = some os
  | [], σ, τ => rfl
  | x :: os, σ, τ => by
    simp only [List.length_cons, List.range'_succ, getL]
    have h1 : (σ ++ (x :: os ++ τ))[σ.length]? = some x := by rw [List.getElem?_append_right (Nat.le_refl _), Nat.sub_self]; rfl
    rw [h1]
    have h2 := zuG os (σ ++ [x]) τ
    simp only [List.length_append, List.length_cons, List.length_nil, Nat.zero_add, List.append_assoc, List.cons_append, List.nil_append] at h2
    simp only [List.cons_append]
    rw [h2]
theorem renOs_low {n : Nat} {f : Nat → Option Nat} (hf : ∀ id, id < n → f id = some id) : ∀ {l : List zf}, (∀ x ∈ l, ztT n x) → zrA f l = some l
  | [], _ => rfl
  | x :: l, h => by simp only [zrA, renO_low hf (h x List.mem_cons_self), renOs_low hf fun y hy => h y (List.mem_cons_of_mem _ hy)]

theorem zjl {n : Nat} {σ' os τ : List zf} {ks : List zf → List Nat} {K : KT} {l : List AV} (hn : σ'.length = n) (hks : ks (σ' ++ (os ++ τ)) = List.range' n os.length) (hl : zkE n σ') (hos : ∀ x ∈ os, ztT (n + os.length) x)
    (hr : Low (n + os.length) (zdF l)) (h : K (zdF l) (σ' ++ os)) : zoE n ks K (some l) (σ' ++ (os ++ τ)) := by
  subst hn
  unfold zoE ztR
  rw [hks]
  have ht : (σ' ++ (os ++ τ)).take σ'.length = σ' := zkF _ _
  simp only [zuG, ht]
  have hf : ∀ id, id < σ'.length + os.length → znr σ'.length (List.range' σ'.length os.length) id = some id := fun id h => renId_range h
  refine ⟨by simp, hl, fun k hk => by simp [List.mem_range'_1] at hk; exact hk.1, List.nodup_range', ?_⟩
  rw [renOs_low hf hos, zoM hf hr]
  exact h
theorem zfW {n : Nat} {σ' os : List zf} {ks : List zf → List Nat} {K : KT} {l : List AV} (hn : σ'.length = n) (hks : ks (σ' ++ os) = List.range' n os.length) (hl : zkE n σ') (hos : ∀ x ∈ os, ztT (n + os.length) x)
    (hr : Low (n + os.length) (zdF l)) (h : K (zdF l) (σ' ++ os)) : zoE n ks K (some l) (σ' ++ os) := by
  have := zjl (os := os) (τ := []) (ks := ks) (K := K) hn (by simpa using hks) hl hos hr h
  simpa using this

theorem zm.weaken {f : FuncId} {xs : List AV} {K : KT} (h : zm P f xs σ fun r s => ∃ r' s', zrS [r] s [r'] s' ∧ K r' s') : zm P f xs σ K :=
  ⟨h.1, fun L w vs S hv => (h.2 L w vs S hv).mono fun e w' he => by
    cases e with
    | panicked _ => exact he
    | outgrown => exact he
    | returned v =>
      obtain ⟨L', σ', r, st, S', hr, r', s', hw, hK⟩ := he
      obtain ⟨L2, st2, S2, hv2⟩ := zjS hw S' (us := [v]) ⟨rfl, fun i c u hc hu => by cases i <;> simp at hc hu; subst hc hu; exact hr⟩
      exact ⟨L2, s', r', st.trans st2, S2, hv2.2 0 r' v rfl rfl, hK⟩⟩

theorem zm.dm {f : FuncId} {xs : List AV} {K : KT} (h : zm P f (xs.map AW.dm) σ K) : zm P f xs σ K :=
  ⟨h.1, fun L w vs S hv => h.2 L w vs S ⟨by rw [List.length_map]; exact hv.1, fun i a v ha hu => by
    simp only [List.getElem?_map, Option.map_eq_some_iff] at ha
    obtain ⟨a', ha', rfl⟩ := ha
    exact zrM (hv.2 i a' v ha' hu)⟩⟩

theorem zm.pre {f : FuncId} {xs xs' : List AV} {σ' : List zf} {K : KT} (hw : zrS xs σ xs' σ') (h : zm P f xs' σ' K) : zm P f xs σ K :=
  ⟨h.1, fun L w vs S hv => by
    obtain ⟨L1, st, S1, hv1⟩ := zjS hw S hv
    refine (h.2 L1 w vs S1 hv1).mono fun e w' he => ?_
    cases e with
    | panicked _ => exact he
    | outgrown => exact he
    | returned v =>
      obtain ⟨L', s', r, st', S', hr, hK⟩ := he
      exact ⟨L', s', r, st.trans st', S', hr, hK⟩⟩
def EndsW (n : Nat) (K : KT) (out : Option (List AV)) (σ' : List zf) : Prop := ∃ s, zrS [] σ' [] s ∧ Ends n K out s
theorem zpB {f : FuncId} {F : AF} {na : Nat} (hF : isFn P f F na) {as0 : List AV} (has : as0.length = na) {K : KT}
    (h : zkE σ.length σ → (∀ a ∈ as0, Low σ.length a) → awp P F.body (AtEnd fun fr' σ' => EndsW σ.length K (zse fr' σ' F.res) σ') (zjT 0 as0) σ) : zm P f as0 σ K :=
  zpC hF has _ (fun {L w L' σ' w' fr' ts} S st S' F' hz => by
    obtain ⟨s, hw, hz⟩ := hz
    obtain ⟨L2, st2, S2, _⟩ := zjS hw S' (us := []) ⟨rfl, by simp⟩
    unfold Ends at hz
    split at hz
    · rename_i l hl
      obtain ⟨z1, z2, z3⟩ := hz
      exact ⟨L2, _, l, dmT (zdF l), hl, (st.trans st2).take, S2.take z2, fun v hr => (dmT_sound (st2.rv hr)).take z1, z3⟩
    · exact hz.elim) h
theorem zpb {n : Nat} {K : KT} {out : Option (List AV)} (h : Ends n K out σ) : EndsW n K out σ := ⟨σ, .refl _ _, h⟩

theorem zkE.setO {n : Nat} (h : zkE n σ) {id : Nat} {x : zf} (hx : ztT n x) : zkE n (σ.set id x) := zkE.set h hx
theorem zfz {τ : List zf} {id : Nat} {x : zf} {K : KT} {l : List AV} (h1 : Low σ.length (dmT (zdF l))) (hl : zkE σ.length σ) (hx : ztT σ.length x) (h : K (dmT (zdF l)) (σ.set id x)) : Ends σ.length K (some l) (σ.set id x ++ τ) := by
  unfold Ends
  have : (σ.set id x ++ τ).take σ.length = σ.set id x := by
    have e : (σ.set id x).length = σ.length := List.length_set
    rw [← e]; exact zkF _ _
  rw [this]
  exact ⟨h1, hl.setO hx, h⟩
theorem zft {id : Nat} {x : zf} {K : KT} {l : List AV} (h1 : Low σ.length (dmT (zdF l))) (hl : zkE σ.length σ) (hx : ztT σ.length x) (h : K (dmT (zdF l)) (σ.set id x)) : Ends σ.length K (some l) (σ.set id x) := by
  have := zfz (τ := []) h1 hl hx h
  simpa using this
theorem zeI {α : Type} {σ : List α} {id : Nat} {x : α} (h : σ[id]? = some x) : σ.set id x = σ := by
  obtain ⟨hl, hh⟩ := List.getElem?_eq_some_iff.1 h
  rw [← hh]; exact List.set_getElem_self hl
theorem zdh {α : Type} {σ : List α} {id : Nat} {x y : α} (h : σ[id]? = some x) : (σ.set id y)[id]? = some y := by
  simp [(List.getElem?_eq_some_iff.1 h).1]
theorem zdB {α : Type} {σ : List α} {id : Nat} {x : α} (h : σ[id]? = some x) : id < σ.length := (List.getElem?_eq_some_iff.1 h).1
end

end Go.AW
