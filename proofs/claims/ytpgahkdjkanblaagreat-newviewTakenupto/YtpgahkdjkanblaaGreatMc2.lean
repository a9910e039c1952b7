/- Contract: whether a new view is one, the program's. -/
import Derived.Test.YtpgahkdjkanblaaGreatMa7
set_option linter.all false
set_option maxRecDepth 100000
set_option linter.unusedSimpArgs false
set_option linter.unusedVariables false
namespace Go.Proofs.YtpgahkdjkanblaaGreat
open Go.AW

def zpm (L : List (List UInt8)) (G : List zt) (key : Int) (a b : List zaI) : Bool := (a.zip b).all fun p => zoX p.1 p.2 && zgk L G key p.1
def chkB (L : List (List UInt8)) (G : List zt) (f : Int) (m : zes) : Bool :=
  decide (m.kind = 8) && (decide (zci f = 0) && (decide (m.src = zcA f m.view) && (zet L G m && (decide (zmw f m.view m.changes = 0) && (decide ((zga f m.view m.changes).2.1.length = m.entries.length) && (m.changes.all (zcF L G f m.view) && zpm L G m.src m.entries (zga f m.view m.changes).2.1))))))
structure ChkR where
  c : zfB
  xs : List zaI
  ok : Bool
def chkF (L : List (List UInt8)) (G : List zt) (f : Int) (m : zes) : ChkR := if chkB L G f m = true then ⟨(zga f m.view m.changes).1, m.entries, true⟩ else ⟨ziU, [], false⟩
structure okNv (m : zes) : Prop where
  small : zcH m
  many : m.changes.length ≤ 1048576
  each : ∀ c ∈ m.changes, zoM c
  range : ∀ c ∈ m.changes, zik c
theorem sameW_eq {x y : zaI} (h : zoX x y = true) : x.view = y.view ∧ x.seq = y.seq ∧ x.batch = y.batch := by simpa [zoX] using h
theorem row_set2 {es : List (List D)} {k : Nat} {y : List D} (h5 : ∀ e ∈ es, e.length = 5) (hy : es[k]? = some y) (a b : D) :
    (zbb es).take (k * 5 + 3) ++ (AV.d a :: AV.d b :: (zbb es).drop (k * 5 + 3 + 2)) = zbb (es.set k ((y.set 3 a).set 4 b)) := by
  have hy5 := h5 y (List.mem_of_getElem? hy)
  have h1 := flatA_set h5 hy (i := 3) (by omega) a
  have h5' : ∀ e ∈ es.set k (y.set 3 a), e.length = 5 := fun e he => by
    rcases List.mem_or_eq_of_mem_set he with he | rfl
    · exact h5 e he
    · simpa using hy5
  have hk := (List.getElem?_eq_some_iff.1 hy).1
  have hy' : (es.set k (y.set 3 a))[k]? = some (y.set 3 a) := List.getElem?_set_self hk
  have h2 := flatA_set h5' hy' (i := 4) (by omega) b
  rw [List.set_set] at h2
  rw [← h2, ← h1]
  have hl : (zbb es).length = es.length * 5 := zgu h5
  have hm : (k + 1) * 5 ≤ es.length * 5 := Nat.mul_le_mul_right _ hk
  apply List.ext_getElem?
  intro j
  rw [List.getElem?_set, List.getElem?_set, List.length_set]
  rcases Nat.lt_or_ge j (k * 5 + 3) with hj | hj
  · rw [List.getElem?_append_left (by rw [List.length_take]; omega), List.getElem?_take, if_pos hj, if_neg (by omega), if_neg (by omega)]
  · rw [List.getElem?_append_right (by rw [List.length_take]; omega), List.length_take, Nat.min_eq_left (by omega)]
    rcases Nat.eq_or_lt_of_le hj with e | e
    · subst e
      rw [Nat.sub_self, if_neg (by omega), if_pos rfl, if_pos (by omega)]; rfl
    · rcases Nat.eq_or_lt_of_le (show k * 5 + 4 ≤ j by omega) with e | e
      · subst e
        rw [show k * 5 + 4 - (k * 5 + 3) = 1 by omega, if_pos rfl, if_pos (by omega)]; rfl
      · rw [if_neg (by omega), if_neg (by omega)]
        obtain ⟨i, rfl⟩ : ∃ i, j = k * 5 + 5 + i := ⟨j - (k * 5 + 5), by omega⟩
        rw [show k * 5 + 5 + i - (k * 5 + 3) = i + 2 by omega, List.getElem?_cons_succ, List.getElem?_cons_succ, List.getElem?_drop]
theorem gq72 {A P Q : Prop} (a : A) (h : Q) (e : A → Hd Q → P := by intro a h; (repeat' first | simp -dsimp only [↓zfa, ↓zat, ↓zbt, ↓zfb, ↓zeW, ↓zeU, ↓zeX, ↓zeV, ↓zby, ↓zbu, ↓zbz, ↓zbv, ↓zeY, ↓zbs, ↓zbA, ↓zbw, ↓zbB, ↓zbx, ↓zeT, ↓zeZ, ↓zbr, ↓zbC, ↓zeQ, ↓zeP, ↓zeS, iN, bT, bF, eN, ↓zcO, ↓unC, ↓zP, ↓zG, ↓zH, ↓zK, ↓zW, ↓zaz, ↓zdn, ↓zau, ↓zbf, ↓zQ, ↓zg, ↓zf, ↓zbY, ↓zb, ↓zae, ↓zL, ↓zaN, ↓zaO, ↓zc, ↓zB, ↓zj, ↓zE, ↓zY, ↓zdz, ↓zdA, ↓zam, ↓zap, ↓zaK, ↓zaV, ↓zbj, ↓zm, ↓zai, ↓zJ, ↓zr, ↓zT, zdD, zbo, zbk, unA, zcZ, bnd, zdZ, zac, zR, zdT, dm, dm1, zI, zan, zeq, zep, zZ, Q0, Q1, Q2, Q3, Q4, Q5, zX, zn, zo, zF, zA, Q6, Q7, Q8, Q9, Q10, Q11, Q12, Q13, Q14, Nat.reduceAdd, Q15, Int.reduceToNat, Q16, Q17, Q18, Q19, Q20, reduceIte, Q21, Q22, zw, rep, zU, zeo, toD, zaa, Q23, Q24, Q25, Q26, Q27, Q28, Nat.reduceLeDiff, Q29, Nat.reduceSub, Q30, Q31, Q32, sc, Q33, Q34, Q35, Q36, Q37, Q26, Q38, Q39, zlJ, zlG, zlD, zlK, zeM, zlH, zlE, zlI, zlF, zeL, zeN, zlL, zlM, Bool.not_true, Bool.not_false, List.length_map, bne, a] | with_reducible refine zmc ?_ | fail); exact h.go) : P := e a ⟨h⟩
theorem gq73 {A P Q : Prop} (a : A) (h : Q) (e : A → Hd Q → P := by intro a h; (repeat' first | simp -dsimp only [↓zfa, ↓zat, ↓zbt, ↓zfb, ↓zeW, ↓zeU, ↓zeX, ↓zeV, ↓zby, ↓zbu, ↓zbz, ↓zbv, ↓zeY, ↓zbs, ↓zbA, ↓zbw, ↓zbB, ↓zbx, ↓zeT, ↓zeZ, ↓zbr, ↓zbC, ↓zeQ, ↓zeP, ↓zeS, iN, bT, bF, eN, ↓zcO, ↓unC, ↓zP, ↓zG, ↓zH, ↓zK, ↓zW, ↓zaz, ↓zdn, ↓zau, ↓zbf, ↓zQ, ↓zg, ↓zf, ↓zbY, ↓zb, ↓zae, ↓zL, ↓zaN, ↓zaO, ↓zc, ↓zB, ↓zj, ↓zE, ↓zY, ↓zdz, ↓zdA, ↓zam, ↓zap, ↓zaK, ↓zaV, ↓zbj, ↓zm, ↓zai, ↓zJ, ↓zr, ↓zT, zdD, zbo, zbk, unA, zcZ, bnd, zdZ, zac, zR, zdT, dm, dm1, zI, zan, zeq, zep, zZ, Q0, Q1, Q2, Q3, Q4, Q5, zX, zn, zo, zF, zA, Q6, Q7, Q8, Q9, Q10, Q11, Q12, Q13, Q14, Nat.reduceAdd, Q15, Int.reduceToNat, Q16, Q17, Q18, Q19, Q20, reduceIte, Q21, Q22, zw, rep, zU, zeo, toD, zaa, Q23, Q24, Q25, Q26, Q27, Q28, Nat.reduceLeDiff, Q29, Nat.reduceSub, Q30, Q31, Q32, sc, Q33, Q34, Q35, Q36, Q37, Q26, Q38, Q39, zlJ, zlG, zlD, zlK, zeM, zlH, zlE, zlI, zlF, zeL, zeN, zlL, zlM, Bool.not_true, Bool.not_false, List.length_map, Nat.sub_zero, bne, a] | with_reducible refine zmc ?_ | fail); exact h.go) : P := e a ⟨h⟩
theorem gq74 {A P Q : Prop} (a : A) (h : Q) (e : A → Hd Q → P := by intro a h; (repeat' first | simp -dsimp only [↓zfa, ↓zat, ↓zbt, ↓zfb, ↓zeW, ↓zeU, ↓zeX, ↓zeV, ↓zby, ↓zbu, ↓zbz, ↓zbv, ↓zeY, ↓zbs, ↓zbA, ↓zbw, ↓zbB, ↓zbx, ↓zeT, ↓zeZ, ↓zbr, ↓zbC, ↓zeQ, ↓zeP, ↓zeS, iN, bT, bF, eN, ↓zcO, ↓unC, ↓zP, ↓zG, ↓zH, ↓zK, ↓zW, ↓zaz, ↓zdn, ↓zau, ↓zbf, ↓zQ, ↓zg, ↓zf, ↓zbY, ↓zb, ↓zae, ↓zL, ↓zaN, ↓zaO, ↓zc, ↓zB, ↓zj, ↓zE, ↓zY, ↓zdz, ↓zdA, ↓zam, ↓zap, ↓zaK, ↓zaV, ↓zbj, ↓zm, ↓zai, ↓zJ, ↓zr, ↓zT, zdD, zbo, zbk, unA, zcZ, bnd, zdZ, zac, zR, zdT, dm, dm1, zI, zan, zeq, zep, zZ, Q0, Q1, Q2, Q3, Q4, Q5, zX, zn, zo, zF, zA, Q6, Q7, Q8, Q9, Q10, Q11, Q12, Q13, Q14, Nat.reduceAdd, Q15, Int.reduceToNat, Q16, Q17, Q18, Q19, Q20, reduceIte, Q21, Q22, zw, rep, zU, zeo, toD, zaa, Q23, Q24, Q25, Q26, Q27, Q28, Nat.reduceLeDiff, Q29, Nat.reduceSub, Q30, Q31, Q32, sc, Q33, Q34, Q35, Q36, Q37, Q26, Q38, Q39, zlJ, zlG, zlD, zlK, zeM, zlH, zlE, zlI, zlF, zeL, zeN, zlL, zlM, Bool.not_true, Bool.not_false, List.length_map, Nat.sub_zero, zdC, z1, a] | with_reducible refine zmc ?_ | fail); exact h.go) : P := e a ⟨h⟩
theorem c_nvCheck {σ : List zd} {id m t id2 m2 t2 : Nat} {L : List (List UInt8)} {G : List zt} {f : Int} {M : zes} (hT : zdG σ id m t L) (hG : zdu σ id2 m2 t2 G) (hL : zkx L) (hg : G.length ≤ 1073741824) (hM : okNv M) {K : KT}
    (hK : K (.tup [zfX (chkF L G f M).c, .d (.slice (zah (chkF L G f M).xs)), .d (.bool (chkF L G f M).ok)]) σ) : zl Tryz.prog ziY [.box id 0, .box id2 0, .d (.int .i64 f), zlf M] σ K := by
  refine zsI zlN.is rfl 2 fun hl _ => zlN.goes ?_
  have hT1 := fun τ => hT.app τ
  have hG1 := fun τ => hG.app τ
  have bad : ∀ τ, chkB L G f M = false → EndsF 2 σ.length K (some [.agg [.d (.int .i64 0), .d (.int .i64 0), .exact []], .exact [], .d (.bool false)]) (σ ++ τ) := fun τ h => by
    have e : chkF L G f M = ⟨ziU, [], false⟩ := by rw [chkF, if_neg (by rw [h]; decide)]
    rw [e] at hK
    exact zmQ (r := .tup [zfX ziU, .d (.slice []), .d (.bool false)]) rfl hl hK
  have hcl : (zaL M.changes).length = M.changes.length := List.length_map ..
  have hel : (zah M.entries).length = M.entries.length := List.length_map ..
  have hml := hM.many
  simp only [zmd, iN, bT, bF, eN]
  cases h1 : (M.kind == 8)
  · refine gq72 h1 ?_
    exact bad _ (by simp at h1; simp [chkB, h1])
  have h1' : M.kind = 8 := by simpa using h1
  refine gq72 h1 ?_
  refine zjs ?_
  cases h2 : (zci f == 0)
  · refine gq72 h2 ?_
    exact bad _ (by simp at h2; simp [chkB, h2])
  refine gq72 h2 ?_
  refine zoF ?_
  cases h3 : (M.src == zcA f M.view)
  · refine gq72 h3 ?_
    exact bad _ (by simp at h3; simp [chkB, h3])
  refine gq72 h3 ?_
  refine c_auValid8 (M := M) (hT1 _) (hG1 _) hL hg hM.small h1' ?_
  cases h4 : zet L G M
  · refine zaF ?_
    exact bad _ (by simp [chkB, h4])
  refine zaF ?_
  refine zsB (zke hM.many hM.each) hM.range (fun h5 => ?_) fun h5 g GV R hR => ?_
  · have h5' : (zmw f M.view M.changes != 0) = true := by simpa using h5
    refine zlu h5' ?_
    exact bad _ (by simp [chkB, h5])
  rw [show (σ ++ [zd.box (msgL M), zd.box [.d (.int .i64 0), .d (.int .i64 0), .exact []]]).length = σ.length + 2 from by simp] at hR ⊢
  obtain ⟨c, hc⟩ : ∃ c, (zga f M.view M.changes).1 = c := ⟨_, rfl⟩
  obtain ⟨xs, hxs⟩ : ∃ c, (zga f M.view M.changes).2.1 = c := ⟨_, rfl⟩
  have hes := znw (f := f) (view := M.view) hM.each
  rw [hxs] at hR hes
  rw [hc]
  have h8 := changes_eight M.changes
  have hxl : (zah xs).length = xs.length := List.length_map ..
  have hcB : chkB L G f M = (decide (xs.length = M.entries.length) && (M.changes.all (zcF L G f M.view) && zpm L G M.src M.entries xs)) := by
    simp only [chkB, hxs, h1', h5, h4, decide_true, Bool.true_and]
    simp at h2 h3
    simp [h2, ← h3]
  have good : zpm L G M.src M.entries xs = true → M.changes.all (zcF L G f M.view) = true → xs.length = M.entries.length → K (.tup [zfX c, .d (.slice (zah M.entries)), .d (.bool true)]) σ := fun a b d => by
    have e : chkF L G f M = ⟨c, M.entries, true⟩ := by rw [chkF, if_pos (by rw [hcB, a, b]; simp [d]), hc]
    rw [e] at hK
    exact hK
  clear hK
  have hsl : (zab c.signs).length = c.signs.length := List.length_map ..
  have f1 : ∀ X Y Z, frz (σ ++ X :: Y :: .row g 2 (zbb (zab c.signs)) :: Z) σ.length 2 (.rsl (σ.length + 2) g 2 0 c.signs.length) = some (.slice (zab c.signs)) := fun X Y Z => by
    rw [← hsl]
    exact zoA (m := 0) (by rw [zn]; rfl) (by omega) (zrL _)
  have all1 : ∀ k, k < M.changes.length → ∀ c', M.changes[k]? = some c' → zcF L G f M.view c' = false → chkB L G f M = false := fun k _ c' hx hv => by
    rw [hcB, all_bad hx hv]; simp
  rcases hR with ⟨rfl, rfl, rfl⟩ | ⟨hne, g2, rfl, rfl⟩
  · cases h6 : (((0 : Nat) : Int) == (M.entries.length : Int))
    · refine gq72 (zS h6 hel) ?_
      exact bad _ (by rw [hcB]; have : ¬ (0 : Nat) = M.entries.length := fun e => by rw [← e] at h6; simp at h6
                      simp [this])
    refine gq72 (zS h6 (zS hel hcl)) ?_
    refine zy M.changes.length (fun k vs s => vs = [.d (.int .i64 k)] ∧ (∃ T, s = σ ++ (.box (msgL M) :: .box [.d (.int .i64 0), .d (.int .i64 0), .exact []] :: .row g 2 (zbb (zab c.signs)) :: .box [.d (.int .i64 c.seq), .d (.int .i64 c.dig), .rsl (σ.length + 2) g 2 0 c.signs.length] :: T)) ∧ (M.changes.take k).all (zcF L G f M.view) = true) ⟨rfl, ⟨[], rfl⟩, rfl⟩ ?_
    rintro k vs s hk ⟨rfl, ⟨T, rfl⟩, hall⟩
    by_cases hlt : k < M.changes.length
    · have hd : decide ((k : Int) < (M.changes.length : Int)) = true := by simp; omega
      have hx : M.changes[k]? = some M.changes[k] := by simp [hlt]
      have hgx := zal (f := zbH) hx
      have hxc := hM.each _ (List.getElem_mem hlt)
      have ha := all1 k hlt _ hx
      obtain ⟨c', hc'⟩ : ∃ c', M.changes[k] = c' := ⟨_, rfl⟩
      rw [hc'] at hx hgx hxc ha
      refine znN (zS hd hgx) ?_
      refine zsA (c := c') (hT1 _) (hG1 _) hL hg hxc ?_
      cases hv : zcF L G f M.view c'
      · refine zaF ?_
        exact bad _ (ha hv)
      · refine zlu (wki k (by omega)) ?_
        exact zbp.next hlt ⟨rfl, ⟨_, rfl⟩, zrB hall hx hv⟩
    · have hd : decide ((k : Int) < (M.changes.length : Int)) = false := by simp; omega
      rw [List.take_of_length_le (by omega)] at hall
      have hm0 : M.entries = [] := List.eq_nil_of_length_eq_zero (by simp at h6; omega)
      have hK := good (by rw [hm0]; rfl) hall (by rw [hm0])
      rw [hm0] at hK
      refine zlu (zS hd (zS hel hm0)) ?_
      refine zy 0 (fun k vs s => vs = [.d (.int .i64 0)] ∧ s = σ ++ (.box (msgL M) :: .box [.d (.int .i64 0), .d (.int .i64 0), .exact []] :: .row g 2 (zbb (zab c.signs)) :: .box [.d (.int .i64 c.seq), .d (.int .i64 c.dig), .rsl (σ.length + 2) g 2 0 c.signs.length] :: T)) ⟨rfl, rfl⟩ ?_
      rintro k vs s hk ⟨rfl, rfl⟩
      refine zlu (show decide ((0 : Int) < ((0 : Nat) : Int)) = false from rfl) ?_
      refine zmQ (r := .tup [zfX c, .d (.slice []), .d (.bool true)]) ?_ hl hK
      have f2 : ∀ X Y Z, ztL (σ ++ X :: Y :: .row g 2 (zbb (zab c.signs)) :: Z) σ.length 2 (.agg [.d (.int .i64 c.seq), .d (.int .i64 c.dig), .rsl (σ.length + 2) g 2 0 c.signs.length]) = some (zfX c) := fun X Y Z => by
        simp only [ztL, List.map_cons, List.map_nil, frz_d, f1, allO]
      have f3 : ∀ s, ztL s σ.length 2 (.exact []) = some (.d (.slice [])) := fun _ => rfl
      have f4 : ∀ s x, ztL s σ.length 2 (.d x) = some (.d x) := fun _ _ => rfl
      simp only [zdy, frzT, List.map_cons, List.map_nil, f2, f3, f4, allO]
  · rw [show σ.length + 2 + 1 = σ.length + 3 from rfl, List.append_assoc]
    cases h6 : ((xs.length : Int) == (M.entries.length : Int))
    · refine gq73 (zS h6 hel) ?_
      exact bad _ (by rw [hcB]; have : ¬ xs.length = M.entries.length := fun e => by rw [← e] at h6; simp at h6
                      simp [this])
    have h6' : xs.length = M.entries.length := by simp at h6; omega
    refine gq73 (zS h6 (zS hel hcl)) ?_
    refine zy M.changes.length (fun k vs s => vs = [.d (.int .i64 k)] ∧ (∃ T, s = σ ++ (.box (msgL M) :: .box [.d (.int .i64 0), .d (.int .i64 0), .exact []] :: .row g 2 (zbb (zab c.signs)) :: .row g2 5 (zbb (zah xs)) :: .box [.d (.int .i64 c.seq), .d (.int .i64 c.dig), .rsl (σ.length + 2) g 2 0 c.signs.length] :: T)) ∧ (M.changes.take k).all (zcF L G f M.view) = true) ⟨rfl, ⟨[], rfl⟩, rfl⟩ ?_
    rintro k vs s hk ⟨rfl, ⟨T, rfl⟩, hall⟩
    by_cases hlt : k < M.changes.length
    · have hd : decide ((k : Int) < (M.changes.length : Int)) = true := by simp; omega
      have hx : M.changes[k]? = some M.changes[k] := by simp [hlt]
      have hgx := zal (f := zbH) hx
      have hxc := hM.each _ (List.getElem_mem hlt)
      have ha := all1 k hlt _ hx
      obtain ⟨c', hc'⟩ : ∃ c', M.changes[k] = c' := ⟨_, rfl⟩
      rw [hc'] at hx hgx hxc ha
      refine znN (zS hd hgx) ?_
      refine zsA (c := c') (hT1 _) (hG1 _) hL hg hxc ?_
      cases hv : zcF L G f M.view c'
      · refine zaF ?_
        exact bad _ (ha hv)
      · refine zlu (wki k (by omega)) ?_
        exact zbp.next hlt ⟨rfl, ⟨_, rfl⟩, zrB hall hx hv⟩
    have hd : decide ((k : Int) < (M.changes.length : Int)) = false := by simp; omega
    rw [List.take_of_length_le (by omega)] at hall
    have badE : zpm L G M.src M.entries xs = false → chkB L G f M = false := fun h => by rw [hcB, h]; simp
    have hzl : (M.entries.zip xs).length = M.entries.length := by rw [List.length_zip]; omega
    refine zlu (zS hd hel) ?_
    clear hd hlt hk
    refine zy M.entries.length (fun k vs s => vs = [.d (.int .i64 k)] ∧ (∃ T, s = σ ++ (.box (msgL M) :: .box [.d (.int .i64 0), .d (.int .i64 0), .exact []] :: .row g 2 (zbb (zab c.signs)) :: .row g2 5 (zbb (zah (M.entries.take k ++ xs.drop k))) :: .box [.d (.int .i64 c.seq), .d (.int .i64 c.dig), .rsl (σ.length + 2) g 2 0 c.signs.length] :: T)) ∧ ((M.entries.zip xs).take k).all (fun p => zoX p.1 p.2 && zgk L G M.src p.1) = true) ⟨rfl, ⟨T, by rw [List.take_zero, List.nil_append, List.drop_zero]⟩, by rw [List.take_zero]; rfl⟩ ?_
    clear T
    rintro k vs s hk ⟨rfl, ⟨T, rfl⟩, hAll⟩
    by_cases hlt : k < M.entries.length
    · have hd : decide ((k : Int) < (M.entries.length : Int)) = true := by simp; omega
      have hx : M.entries[k]? = some M.entries[k] := by simp [hlt]
      have hy : xs[k]? = some (xs[k]'(by omega)) := List.getElem?_eq_getElem _
      have hgx := zal (f := zdC) hx
      have hxk := hM.small.entry _ (List.getElem_mem hlt)
      have hyk := (hes.2 (xs[k]'(by omega)) (List.getElem_mem _)).okB
      obtain ⟨x, hxe⟩ : ∃ c', M.entries[k] = c' := ⟨_, rfl⟩
      obtain ⟨y, hye⟩ : ∃ c', (xs[k]'(by omega)) = c' := ⟨_, rfl⟩
      rw [hxe] at hx hgx hxk
      rw [hye] at hy hyk
      have hz : (M.entries.zip xs)[k]? = some (x, y) := by rw [List.getElem?_zip_eq_some]; exact ⟨hx, hy⟩
      have hlk : (M.entries.take k).length = k := by rw [List.length_take]; omega
      have hq : (M.entries.take k ++ xs.drop k)[k]? = some y := by
        rw [List.getElem?_append_right (by omega), hlk, Nat.sub_self, List.getElem?_drop, Nat.add_zero]; exact hy
      have hset : (M.entries.take k ++ xs.drop k).set k x = M.entries.take (k + 1) ++ xs.drop (k + 1) := by
        have e1 : xs.drop k = y :: xs.drop (k + 1) := by rw [List.drop_eq_getElem_cons (by omega), hye]
        rw [List.set_append_right _ _ (by omega), hlk, Nat.sub_self, e1, List.set_cons_zero, List.take_add_one, hx]; simp
      have h5 := entries_five (M.entries.take k ++ xs.drop k)
      have hgq := zal (f := zdC) hq
      have hget := zpl h5 hgq
      have hstore := row_set2 h5 hgq (.int .i64 x.key) (.int .i64 x.dig)
      have hRl : (zbb (zah (M.entries.take k ++ xs.drop k))).length = M.entries.length * 5 := by rw [zgu h5, List.length_map, List.length_append, hlk, List.length_drop, h6']; congr 1; omega
      have hbadk : (zoX x y && zgk L G M.src x) = false → chkB L G f M = false := fun h => badE (all_bad hz h)
      obtain ⟨Rw, hRw⟩ : ∃ R, zbb (zah (M.entries.take k ++ xs.drop k)) = R := ⟨_, rfl⟩
      rw [hRw] at hget hstore hRl ⊢
      have z1 : k * 5 + 5 ≤ Rw.length := by omega
      have z2 : k * 5 + 3 + 2 ≤ Rw.length := by omega
      have zk : 0 ≤ (k : Int) := by omega
      have zx : (k : Int) < (xs.length : Int) := by omega
      refine gq74 (zS hd (zS hgx (zS zk (zS zx hget)))) ?_
      refine c_nvSame (a := x) (b := y) hxk.2 hyk.2 ?_
      cases h7 : zoX x y
      · refine zaF ?_
        exact bad _ (hbadk (by rw [h7]; rfl))
      refine zaF ?_
      refine zth (x := x) (hT1 _) (hG1 _) hL hg hxk.1 ?_
      cases h8 : zgk L G M.src x
      · refine zaF ?_
        exact bad _ (hbadk (by rw [h7, h8]; rfl))
      refine gq68 (zS zk (zS zx (zS hstore (wki k (by omega))))) ?_
      obtain ⟨w1, w2, w3⟩ := sameW_eq h7
      have hxy : ((zdC y).set 3 (.int .i64 x.key)).set 4 (.int .i64 x.dig) = zdC x := by simp only [zdC, w1, w2, w3, List.set_cons_succ, List.set_cons_zero]
      have hse : (zah (M.entries.take k ++ xs.drop k)).set k (zdC x) = zah (M.entries.take (k + 1) ++ xs.drop (k + 1)) := by rw [← hset]; exact List.map_set.symm
      rw [hxy, hse]
      exact zbp.next hlt ⟨rfl, ⟨T ++ [zd.box [.d (.int .i64 x.view), .d (.int .i64 x.seq), .d (.slice (zbD x.batch)), .d (.int .i64 x.key), .d (.int .i64 x.dig)]], rfl⟩, zrB hAll hz (by rw [h7, h8]; rfl)⟩
    · have hd : decide ((k : Int) < (M.entries.length : Int)) = false := by simp; omega
      rw [List.take_of_length_le (by omega)] at hAll
      have hK := good hAll hall h6'
      rw [List.take_of_length_le (by omega), List.drop_of_length_le (by omega), List.append_nil]
      refine zlu hd ?_
      refine zmQ (r := .tup [zfX c, .d (.slice (zah M.entries)), .d (.bool true)]) ?_ hl hK
      have f2 : ∀ X Y Z, ztL (σ ++ X :: Y :: .row g 2 (zbb (zab c.signs)) :: Z) σ.length 2 (.agg [.d (.int .i64 c.seq), .d (.int .i64 c.dig), .rsl (σ.length + 2) g 2 0 c.signs.length]) = some (zfX c) := fun X Y Z => by
        simp only [ztL, List.map_cons, List.map_nil, frz_d, f1, allO]
      have f3 : ∀ X Y Z W, ztL (σ ++ X :: Y :: Z :: .row g2 5 (zbb (zah M.entries)) :: W) σ.length 2 (.rsl (σ.length + 3) g2 5 0 xs.length) = some (.d (.slice (zah M.entries))) := fun X Y Z W => by
        have : frz (σ ++ X :: Y :: Z :: .row g2 5 (zbb (zah M.entries)) :: W) σ.length 2 (.rsl (σ.length + 3) g2 5 0 xs.length) = some (.slice (zah M.entries)) := by
          rw [h6', ← hel]
          exact zoA (m := 0) (by rw [zn]; rfl) (by omega) (entries_five _)
        simp only [ztL, this]
      have f4 : ∀ s x, ztL s σ.length 2 (.d x) = some (.d x) := fun _ _ => rfl
      simp only [zdy, frzT, List.map_cons, List.map_nil, f2, f3, f4, allO]
end Go.Proofs.YtpgahkdjkanblaaGreat
