/- Contracts: what a new view goes on with. -/
import Derived.Test.YtpgahkdjkanblaaGreatSpMap
import Derived.Test.YtpgahkdjkanblaaGreatNr3
set_option linter.all false
set_option maxRecDepth 100000
set_option linter.unusedSimpArgs false
set_option linter.unusedVariables false
namespace Go.Proofs.YtpgahkdjkanblaaGreat
open Go.AW

def zfJ (p : zbW) : AV := .agg (latC (some p))
theorem latStep_map (q : zbW) (o : Int → Option zbW) : (fun s => (ziw s (o s) q).map zfJ) = fun s => if s = q.seq then (ziw q.seq (o q.seq) q).map zfJ else (o s).map zfJ := by
  funext s
  by_cases h : s = q.seq
  · subst h; rw [if_pos rfl]
  · rw [if_neg h]; unfold ziw; rw [if_neg (fun e => h e.symm)]
theorem gq18 {A P Q : Prop} (a : A) (h : Q) (e : A → P = Q := by intro a; simp -dsimp only [↓zey, ↓zay, ↓zbs, ↓zez, ↓zeu, ↓zes, ↓zev, ↓zet, ↓zbx, ↓zbt, ↓zby, ↓zbu, ↓zew, ↓zbr, ↓zbz, ↓zbv, ↓zbA, ↓zbw, ↓zer, ↓zex, ↓zbp, ↓zbB, ↓zep, ↓zeo, ↓zeq, iN, bT, bF, eN, ↓zcv, ↓unC, ↓zU, ↓zI, ↓zJ, ↓zM, ↓zX, ↓zal, ↓zcX, ↓zai, ↓zaJ, ↓zW, ↓zg, ↓zn, ↓zbP, ↓zb, ↓zaf, ↓zD, ↓zaI, ↓zaQ, ↓zd, ↓zF, ↓zj, ↓zG, ↓zam, ↓zdc, ↓zdj, ↓zak, ↓zau, ↓zaL, ↓zaY, ↓zbh, ↓zo, ↓zaj, ↓zK, ↓zr, ↓zV, zdk, zbn, zbk, unA, zdu, bnd, zdG, zae, zO, zdW, dm, dm1, zR, zaF, zea, zdZ, zw, Q0, Q1, Q2, Q3, Q4, Q5, zY, zC, zt, zN, zE, Q6, Q7, Q8, Q9, Q10, Q11, Q12, Q13, Q14, Nat.reduceAdd, Q15, Int.reduceToNat, Q16, Q17, Q18, Q19, Q20, reduceIte, Q21, Q22, zA, rep, zZ, zeB, toD, zap, Q23, Q24, Q25, Q26, Q27, Q28, Nat.reduceLeDiff, Q29, Nat.reduceSub, Q30, Q31, Q32, sc, Q33, Q34, Q35, Int.toNat_zero, List.length_map, zbm, a]; rfl) : P := (e a).mpr h
theorem gq19 {A P Q : Prop} (a : A) (h : Q) (e : A → P = Q := by intro a; simp -dsimp only [↓zey, ↓zay, ↓zbs, ↓zez, ↓zeu, ↓zes, ↓zev, ↓zet, ↓zbx, ↓zbt, ↓zby, ↓zbu, ↓zew, ↓zbr, ↓zbz, ↓zbv, ↓zbA, ↓zbw, ↓zer, ↓zex, ↓zbp, ↓zbB, ↓zep, ↓zeo, ↓zeq, iN, bT, bF, eN, ↓zcv, ↓unC, ↓zU, ↓zI, ↓zJ, ↓zM, ↓zX, ↓zal, ↓zcX, ↓zai, ↓zaJ, ↓zW, ↓zg, ↓zn, ↓zbP, ↓zb, ↓zaf, ↓zD, ↓zaI, ↓zaQ, ↓zd, ↓zF, ↓zj, ↓zG, ↓zam, ↓zdc, ↓zdj, ↓zak, ↓zau, ↓zaL, ↓zaY, ↓zbh, ↓zo, ↓zaj, ↓zK, ↓zr, ↓zV, zdk, zbn, zbk, unA, zdu, bnd, zdG, zae, zO, zdW, dm, dm1, zR, zaF, zea, zdZ, zw, Q0, Q1, Q2, Q3, Q4, Q5, zY, zC, zt, zN, zE, Q6, Q7, Q8, Q9, Q10, Q11, Q12, Q13, Q14, Nat.reduceAdd, Q15, Int.reduceToNat, Q16, Q17, Q18, Q19, Q20, reduceIte, Q21, Q22, zA, rep, zZ, zeB, toD, zap, Q23, Q24, Q25, Q26, Q27, Q28, Nat.reduceLeDiff, Q29, Nat.reduceSub, Q30, Q31, Q32, sc, Q33, Q34, Q35, List.length_map, zbm, a]; rfl) : P := (e a).mpr h
theorem gq20 {A P Q : Prop} (a : A) (h : Q) (e : A → P = Q := by intro a; simp -dsimp only [↓zey, ↓zay, ↓zbs, ↓zez, ↓zeu, ↓zes, ↓zev, ↓zet, ↓zbx, ↓zbt, ↓zby, ↓zbu, ↓zew, ↓zbr, ↓zbz, ↓zbv, ↓zbA, ↓zbw, ↓zer, ↓zex, ↓zbp, ↓zbB, ↓zep, ↓zeo, ↓zeq, iN, bT, bF, eN, ↓zcv, ↓unC, ↓zU, ↓zI, ↓zJ, ↓zM, ↓zX, ↓zal, ↓zcX, ↓zai, ↓zaJ, ↓zW, ↓zg, ↓zn, ↓zbP, ↓zb, ↓zaf, ↓zD, ↓zaI, ↓zaQ, ↓zd, ↓zF, ↓zj, ↓zG, ↓zam, ↓zdc, ↓zdj, ↓zak, ↓zau, ↓zaL, ↓zaY, ↓zbh, ↓zo, ↓zaj, ↓zK, ↓zr, ↓zV, zdk, zbn, zbk, unA, zdu, bnd, zdG, zae, zO, zdW, dm, dm1, zR, zaF, zea, zdZ, zw, Q0, Q1, Q2, Q3, Q4, Q5, zY, zC, zt, zN, zE, Q6, Q7, Q8, Q9, Q10, Q11, Q12, Q13, Q14, Nat.reduceAdd, Q15, Int.reduceToNat, Q16, Q17, Q18, Q19, Q20, reduceIte, Q21, Q22, zA, rep, zZ, zeB, toD, zap, Q23, Q24, Q25, Q26, Q27, Q28, Nat.reduceLeDiff, Q29, Nat.reduceSub, Q30, Q31, Q32, sc, Q33, Q34, Q35, Bool.not_false, Bool.not_true, zdC, ents_add, zeG, zvY, zeV, a]; rfl) : P := (e a).mpr h
theorem gq21 {A P Q : Prop} (a : A) (h : Q) (e : A → P = Q := by intro a; simp -dsimp only [↓zey, ↓zay, ↓zbs, ↓zez, ↓zeu, ↓zes, ↓zev, ↓zet, ↓zbx, ↓zbt, ↓zby, ↓zbu, ↓zew, ↓zbr, ↓zbz, ↓zbv, ↓zbA, ↓zbw, ↓zer, ↓zex, ↓zbp, ↓zbB, ↓zep, ↓zeo, ↓zeq, iN, bT, bF, eN, ↓zcv, ↓unC, ↓zU, ↓zI, ↓zJ, ↓zM, ↓zX, ↓zal, ↓zcX, ↓zai, ↓zaJ, ↓zW, ↓zg, ↓zn, ↓zbP, ↓zb, ↓zaf, ↓zD, ↓zaI, ↓zaQ, ↓zd, ↓zF, ↓zj, ↓zG, ↓zam, ↓zdc, ↓zdj, ↓zak, ↓zau, ↓zaL, ↓zaY, ↓zbh, ↓zo, ↓zaj, ↓zK, ↓zr, ↓zV, zdk, zbn, zbk, unA, zdu, bnd, zdG, zae, zO, zdW, dm, dm1, zR, zaF, zea, zdZ, zw, Q0, Q1, Q2, Q3, Q4, Q5, zY, zC, zt, zN, zE, Q6, Q7, Q8, Q9, Q10, Q11, Q12, Q13, Q14, Nat.reduceAdd, Q15, Int.reduceToNat, Q16, Q17, Q18, Q19, Q20, reduceIte, Q21, Q22, zA, rep, zZ, zeB, toD, zap, Q23, Q24, Q25, Q26, Q27, Q28, Nat.reduceLeDiff, Q29, Nat.reduceSub, Q30, Q31, Q32, sc, Q33, Q34, Q35, Bool.not_false, Bool.not_true, zdC, zeG, latC, zvY, zeV, zfJ, a]; rfl) : P := (e a).mpr h
theorem gq22 {A P Q : Prop} (a : A) (h : Q) (e : A → P = Q := by intro a; simp -dsimp only [↓zey, ↓zay, ↓zbs, ↓zez, ↓zeu, ↓zes, ↓zev, ↓zet, ↓zbx, ↓zbt, ↓zby, ↓zbu, ↓zew, ↓zbr, ↓zbz, ↓zbv, ↓zbA, ↓zbw, ↓zer, ↓zex, ↓zbp, ↓zbB, ↓zep, ↓zeo, ↓zeq, iN, bT, bF, eN, ↓zcv, ↓unC, ↓zU, ↓zI, ↓zJ, ↓zM, ↓zX, ↓zal, ↓zcX, ↓zai, ↓zaJ, ↓zW, ↓zg, ↓zn, ↓zbP, ↓zb, ↓zaf, ↓zD, ↓zaI, ↓zaQ, ↓zd, ↓zF, ↓zj, ↓zG, ↓zam, ↓zdc, ↓zdj, ↓zak, ↓zau, ↓zaL, ↓zaY, ↓zbh, ↓zo, ↓zaj, ↓zK, ↓zr, ↓zV, zdk, zbn, zbk, unA, zdu, bnd, zdG, zae, zO, zdW, dm, dm1, zR, zaF, zea, zdZ, zw, Q0, Q1, Q2, Q3, Q4, Q5, zY, zC, zt, zN, zE, Q6, Q7, Q8, Q9, Q10, Q11, Q12, Q13, Q14, Nat.reduceAdd, Q15, Int.reduceToNat, Q16, Q17, Q18, Q19, Q20, reduceIte, Q21, Q22, zA, rep, zZ, zeB, toD, zap, Q23, Q24, Q25, Q26, Q27, Q28, Nat.reduceLeDiff, Q29, Nat.reduceSub, Q30, Q31, Q32, sc, Q33, Q34, Q35, Bool.not_false, Bool.not_true, zdC, ents_set, zeG, latC, zvY, zeV, zfJ, a]; rfl) : P := (e a).mpr h
theorem gq23 {A P Q : Prop} (a : A) (h : Q) (e : A → P = Q := by intro a; simp -dsimp only [↓zey, ↓zay, ↓zbs, ↓zez, ↓zeu, ↓zes, ↓zev, ↓zet, ↓zbx, ↓zbt, ↓zby, ↓zbu, ↓zew, ↓zbr, ↓zbz, ↓zbv, ↓zbA, ↓zbw, ↓zer, ↓zex, ↓zbp, ↓zbB, ↓zep, ↓zeo, ↓zeq, iN, bT, bF, eN, ↓zcv, ↓unC, ↓zU, ↓zI, ↓zJ, ↓zM, ↓zX, ↓zal, ↓zcX, ↓zai, ↓zaJ, ↓zW, ↓zg, ↓zn, ↓zbP, ↓zb, ↓zaf, ↓zD, ↓zaI, ↓zaQ, ↓zd, ↓zF, ↓zj, ↓zG, ↓zam, ↓zdc, ↓zdj, ↓zak, ↓zau, ↓zaL, ↓zaY, ↓zbh, ↓zo, ↓zaj, ↓zK, ↓zr, ↓zV, zdk, zbn, zbk, unA, zdu, bnd, zdG, zae, zO, zdW, dm, dm1, zR, zaF, zea, zdZ, zw, Q0, Q1, Q2, Q3, Q4, Q5, zY, zC, zt, zN, zE, Q6, Q7, Q8, Q9, Q10, Q11, Q12, Q13, Q14, Nat.reduceAdd, Q15, Int.reduceToNat, Q16, Q17, Q18, Q19, Q20, reduceIte, Q21, Q22, zA, rep, zZ, zeB, toD, zap, Q23, Q24, Q25, Q26, Q27, Q28, Nat.reduceLeDiff, Q29, Nat.reduceSub, Q30, Q31, Q32, sc, Q33, Q34, Q35, zdC, zeG, latC, zvY, zfJ, a]; rfl) : P := (e a).mpr h
theorem c_nvSelect {σ : List zf} {f view : Int} {cs : List zaa} (hs : smallC cs) (hR : ∀ c ∈ cs, zmE c) {K : KT}
    (hK : K (.tup [zgQ (selF f view cs).1, .d (.slice (zfV (selF f view cs).2.1)), .d (.int .i64 (selF f view cs).2.2)]) σ) :
    zm Tryz.prog zfk [.d (.int .i64 f), .d (.int .i64 view), .d (.slice (zaP cs))] σ K := by
  refine zc zlr.is rfl fun hl _ => zlr.goes ?_
  obtain ⟨hs1, hs2⟩ := hs
  simp only [zlJ, iN, bT, bF, eN]
  (refine gq2 ?_; try with_reducible exact True.intro)
  refine c_may hs1 ?_
  have fin : ∀ r : zek × List ziN × Int, selF f view cs = r → K (.tup [zgQ r.1, .d (.slice (zfV r.2.1)), .d (.int .i64 r.2.2)]) σ := fun r h => h ▸ hK
  clear hK
  cases h0 : (mayF f view cs != 0)
  rotate_left
  · (refine gq1 h0 ?_; try with_reducible exact True.intro)
    refine zq hl ?_
    exact fin (zoO, [], mayF f view cs) (by rw [selF, if_pos (by simpa using h0)])
  have h0' : mayF f view cs = 0 := by simpa using h0
  obtain ⟨hne, hcf⟩ := mayF_ne h0'
  have hlen : 0 < cs.length := List.length_pos_iff.2 hne
  have hx0 : cs[0]? = some cs[0] := by simp [hlen]
  have hgx0 := zQ (f := zbm) hx0
  have hb0 : zpw cs 0 = cs[0].cert := by
    cases cs with
    | nil => exact absurd rfl hne
    | cons c cs => rfl
  (refine gq18 (zB h0 hgx0) ?_; try with_reducible exact True.intro)
  refine ⟨by omega, ?_⟩
  try (refine gq2 ?_; try with_reducible exact True.intro)
  refine zl cs.length (fun k vs s => vs = [.d (.int .i64 (zdJ (zeU cs k))), .d (.int .i64 k)] ∧ ∃ l T, zmY l (fun q => (latF (zeU cs k) q).map zfJ) ∧ s = σ ++ (.box [.d (.int .i64 0), .d (.int .i64 0), .exact []] :: .box [.d (.int .i64 (zpw cs k).seq), .d (.int .i64 (zpw cs k).dig), .d (.slice (zas (zpw cs k).signs))] :: .map (ents l) :: T)) ⟨rfl, [], [], zmY.nil, by rw [hb0]; rfl⟩ ?_
  rintro k vs s hk ⟨rfl, l, T, hmap, rfl⟩
  (refine gq2 ?_; try with_reducible exact True.intro)
  refine zS (fun h => ?_) (fun h => ?_)
  · have hlt : k < cs.length := by simp at h; omega
    have hx : cs[k]? = some cs[k] := by simp [hlt]
    have hgx := zQ (f := zbm) hx
    obtain ⟨_, ha, _⟩ := hs2 _ (List.getElem_mem hlt)
    obtain ⟨c, hce⟩ : ∃ c, cs[k] = c := ⟨_, rfl⟩
    rw [hce] at hx hgx ha
    have hps := prepsOf_succ hx
    have hbs := zvl hx
    have hwk : IntKind.i64.wrap ((k : Int) + 1) = ((k + 1 : Nat) : Int) := by rw [zat (by omega) (by omega)]; rfl
    (refine gq19 hgx ?_; try with_reducible exact True.intro)
    refine ⟨by omega, ?_⟩
    obtain ⟨b, hbe⟩ : ∃ b, zpw cs (k + 1) = b := ⟨_, rfl⟩
    cases h2 : decide (c.cert.seq > (zpw cs k).seq)
    all_goals
      first
        | (have hcb : zpw cs k = b := by rw [← hbe, hbs, zpv, if_neg (by simpa using h2)])
        | (have hcb : c.cert = b := by rw [← hbe, hbs, zpv, if_pos (by simpa using h2)])
      (refine gq19 (zB hgx h2) ?_; try with_reducible exact True.intro)
      rw [hcb]
      refine zl c.above.length (fun j vs s => vs = [.d (.int .i64 (zdJ (zeU cs k ++ c.above.take j))), .d (.int .i64 j)] ∧ ∃ l T, zmY l (fun q => (latF (zeU cs k ++ c.above.take j) q).map zfJ) ∧ s = σ ++ (.box [.d (.int .i64 0), .d (.int .i64 0), .exact []] :: .box [.d (.int .i64 b.seq), .d (.int .i64 b.dig), .d (.slice (zas b.signs))] :: .map (ents l) :: T)) ⟨by simp, l, _, by simpa using hmap, rfl⟩ ?_
      rintro j vs s hj ⟨rfl, l, T, hmap, rfl⟩
      (refine gq11 ?_; try with_reducible exact True.intro)
      refine zS (fun h => ?_) (fun h => ?_)
      · have hjt : j < c.above.length := by simp at h; omega
        have hy : c.above[j]? = some c.above[j] := by simp [hjt]
        have hgy := zQ (f := zeV) hy
        obtain ⟨p, hpe⟩ : ∃ p, c.above[j] = p := ⟨_, rfl⟩
        rw [hpe] at hy hgy
        have htk : c.above.take (j + 1) = c.above.take j ++ [p] := by rw [List.take_add_one, hy]; rfl
        have hw : IntKind.i64.wrap ((j : Int) + 1) = ((j + 1 : Nat) : Int) := by rw [zat (by omega) (by omega)]; rfl
        obtain ⟨L, hLe⟩ : ∃ L, zeU cs k ++ c.above.take j = L := ⟨_, rfl⟩
        have hL1 : zeU cs k ++ c.above.take (j + 1) = L ++ [p] := by rw [htk, ← List.append_assoc, hLe]
        rw [hLe] at hmap ⊢
        have hg : (if p.seq > zdJ L then p.seq else zdJ L) = zdJ (L ++ [p]) := by rw [greatF_snoc]; rfl
        have hm2 : (fun q => (latF (L ++ [p]) q).map zfJ) = fun s => if s = p.seq then (ziw p.seq (latF L p.seq) p).map zfJ else (latF L s).map zfJ := by
          rw [← latStep_map]; funext q; rw [latF_snoc]
        have next : ∀ l T, zmY l (fun q => (latF (L ++ [p]) q).map zfJ) → zaG c.above.length (fun j vs s => vs = [.d (.int .i64 (zdJ (zeU cs k ++ c.above.take j))), .d (.int .i64 j)] ∧ ∃ l T, zmY l (fun q => (latF (zeU cs k ++ c.above.take j) q).map zfJ) ∧ s = σ ++ (.box [.d (.int .i64 0), .d (.int .i64 0), .exact []] :: .box [.d (.int .i64 b.seq), .d (.int .i64 b.dig), .d (.slice (zas b.signs))] :: .map (ents l) :: T)) j
            [.d (.int .i64 (zdJ (L ++ [p]))), .d (.int .i64 (j + 1 : Nat))] (σ ++ (.box [.d (.int .i64 0), .d (.int .i64 0), .exact []] :: .box [.d (.int .i64 b.seq), .d (.int .i64 b.dig), .d (.slice (zas b.signs))] :: .map (ents l) :: T)) := fun l T h => zaG.next hjt ⟨by rw [hL1], l, T, by rw [hL1]; exact h, rfl⟩
        cases ho : latF L p.seq with
        | none =>
          have hf := hmap.none (s := p.seq) (by simp only [ho]; rfl)
          have hnew := hmap.add (t := p.seq) (x := zfJ p) (by simp only [ho]; rfl)
          (refine gq20 (zB hgy (zB hf (zB hg hw))) ?_; try with_reducible exact True.intro)
          repeat' ((with_reducible refine And.intro ?_ ?_); focus (first | omega | rfl | decide))
          try (refine gq20 (zB hgy (zB hf (zB hg hw))) ?_; try with_reducible exact True.intro)
          refine next _ _ ?_
          rw [hm2, ho]
          simp only [ziw, if_true, Option.map_some]
          exact hnew
        | some r =>
          obtain ⟨i, hf, hfi⟩ := hmap.some (s := p.seq) (v := zfJ r) (by simp only [ho]; rfl)
          cases h3 : decide (p.view > r.view)
          · (refine gq21 (zB hgy (zB hf (zB hg (zB hw h3)))) ?_; try with_reducible exact True.intro)
            repeat' ((with_reducible refine And.intro ?_ ?_); focus (first | omega | rfl | decide))
            try (refine gq21 (zB hgy (zB hf (zB hg (zB hw h3)))) ?_; try with_reducible exact True.intro)
            refine next _ _ ?_
            have : (fun q => (latF (L ++ [p]) q).map zfJ) = fun q => (latF L q).map zfJ := by
              funext q
              rw [latF_snoc]
              unfold ziw
              by_cases e : p.seq = q
              · subst e
                rw [if_pos rfl, ho]
                simp only
                rw [if_neg (by simpa using h3)]
              · rw [if_neg e]
            rw [this]
            exact hmap
          · have hnew := hmap.put (x := zfJ p) hfi
            (refine gq22 (zB hgy (zB hf (zB hg (zB hw h3)))) ?_; try with_reducible exact True.intro)
            repeat' ((with_reducible refine And.intro ?_ ?_); focus (first | omega | rfl | decide))
            try (refine gq22 (zB hgy (zB hf (zB hg (zB hw h3)))) ?_; try with_reducible exact True.intro)
            refine next _ _ ?_
            rw [hm2, ho]
            simp only [ziw, if_true]
            rw [if_pos (by simpa using h3)]
            exact hnew
      · have hn : j = c.above.length := by simp at h; omega
        subst hn
        rw [List.take_length, ← hps] at hmap ⊢
        (refine gq1 hwk ?_; try with_reducible exact True.intro)
        exact zaG.next hlt ⟨rfl, l, T, hmap, by rw [hbe]⟩
  · have hn : k = cs.length := by simp at h; omega
    subst hn
    obtain ⟨L, hLe⟩ : ∃ L, zeU cs cs.length = L := ⟨_, rfl⟩
    obtain ⟨b, hbe⟩ : ∃ b, zpw cs cs.length = b := ⟨_, rfl⟩
    have hg1 := great_le hR cs.length
    have hg0 := greatF_nn L
    have hbR := best_mem_R hR (Nat.le_refl _) hne
    obtain ⟨c0, hc0, hcb⟩ := ztm (cs := cs) (Nat.le_refl _) hne
    have hbs : b.signs.length ≤ 1073741824 := by rw [← hbe, hcb]; exact (hs2 c0 hc0).1
    have hLs : ∀ p ∈ L, zhF p.batch := fun p hp => by
      rw [← hLe] at hp
      obtain ⟨c, hc, hp⟩ := zsf hp
      exact (hs2 c hc).2.2 p hp
    have hsel : selF f view cs = if b.seq < 0 ∨ zdJ L ≤ b.seq then (b, [], 0) else (b, zpa view L b.seq (manyF (zdJ L) b.seq), 0) := by
      rw [selF, if_neg (by rw [h0']; simp)]; simp only [hLe, hbe]
    rw [hLe] at hg1 hmap ⊢
    rw [hbe] at hbR ⊢
    clear hcb hbe hLe
    cases h6 : decide (b.seq < 0)
    rotate_left
    · (refine gq14 h6 ?_; try with_reducible exact True.intro)
      repeat' ((with_reducible refine And.intro ?_ ?_); focus (first | omega | rfl | decide | exact zsb _ | simp))
      try (refine gq14 h6 ?_; try with_reducible exact True.intro)
      refine zq hl ?_
      exact fin (b, [], 0) (by rw [hsel, if_pos (.inl (by simpa using h6))])
    cases h7 : decide (zdJ L ≤ b.seq)
    rotate_left
    · (refine gq14 (zB h6 h7) ?_; try with_reducible exact True.intro)
      repeat' ((with_reducible refine And.intro ?_ ?_); focus (first | omega | rfl | decide | exact zsb _ | simp))
      try (refine gq14 (zB h6 h7) ?_; try with_reducible exact True.intro)
      refine zq hl ?_
      exact fin (b, [], 0) (by rw [hsel, if_pos (.inr (by simpa using h7))])
    have h6' : 0 ≤ b.seq := by simpa using h6
    have h7' : b.seq < zdJ L := by simpa using h7
    have hw1 : IntKind.i64.wrap (zdJ L - b.seq) = zdJ L - b.seq := zat (by omega) (by omega)
    obtain ⟨N, hN⟩ : ∃ N, manyF (zdJ L) b.seq = N := ⟨_, rfl⟩
    have hmin : (if (8 : Int) < zdJ L - b.seq then (8 : Int) else zdJ L - b.seq) = (N : Int) := by
      rw [← hN]; unfold manyF; split <;> omega
    have hN8 := manyF_le8 (zdJ L) b.seq
    rw [hN] at hN8
    have hNg : (N : Int) ≤ zdJ L - b.seq := by rw [← hN]; unfold manyF; omega
    have hN0 : 0 < N := by rw [← hN]; unfold manyF; omega
    (refine gq14 (zB h6 (zB h7 (zB hw1 hmin))) ?_; try with_reducible exact True.intro)
    repeat' ((with_reducible refine And.intro ?_ ?_); focus (first | omega | rfl | decide | exact zsb _ | simp))
    try (refine gq14 (zB h6 (zB h7 (zB hw1 hmin))) ?_; try with_reducible exact True.intro)
    obtain ⟨T1, hT1⟩ : ∃ T1, T ++ [zf.tok 2 b.signs.length] = T1 := ⟨_, rfl⟩
    obtain ⟨t0, ht0⟩ : ∃ t0, σ.length + (T.length + 3) = t0 := ⟨_, rfl⟩
    rw [hT1, ht0]
    clear hT1 ht0
    refine zl N (fun n vs s => vs = [if n = 0 then .exact [] else .own (σ.length + (T1.length + 3)) (zfV (zpa view L b.seq n)), .d (.int .i64 n)] ∧ s = σ ++ (.box [.d (.int .i64 0), .d (.int .i64 0), .exact []] :: .box [.d (.int .i64 b.seq), .d (.int .i64 b.dig), .own t0 (zas b.signs)] :: .map (ents l) :: (T1 ++ if n = 0 then [] else [.tok 5 (zfV (zpa view L b.seq n)).length]))) ⟨rfl, by simp⟩ ?_
    rintro n vs s hn ⟨rfl, rfl⟩
    have hel : (zpa view L b.seq n).length = n := by simp [zpa]
    by_cases hnN : n = N
    · have hd : decide ((n : Int) < (N : Int)) = false := by simp; omega
      have hn0 : ¬ n = 0 := by omega
      simp only [if_neg hn0]
      (refine gq1 hd ?_; try with_reducible exact True.intro)
      repeat' ((with_reducible refine And.intro ?_ ?_); focus (first | omega | rfl | decide))
      try (refine gq1 hd ?_; try with_reducible exact True.intro)
      refine zq hl ?_
      exact fin (b, zpa view L b.seq n, 0) (by rw [hsel, if_neg (by omega), hN, hnN])
    · have hd : decide ((n : Int) < (N : Int)) = true := by simp; omega
      have hw2 : IntKind.i64.wrap (b.seq + (n : Int)) = b.seq + n := zat (by omega) (by omega)
      have hw3 : IntKind.i64.wrap (b.seq + (n : Int) + 1) = b.seq + n + 1 := zat (by omega) (by omega)
      have hw4 : IntKind.i64.wrap ((n : Int) + 1) = ((n + 1 : Nat) : Int) := by rw [zat (by omega) (by omega)]; rfl
      have hsn : zfV (zpa view L b.seq n) ++ [zhJ (entAt view L b.seq n)] = zfV (zpa view L b.seq (n + 1)) := by rw [← entsF_snoc]; simp
      have hel1 : (zpa view L b.seq (n + 1)).length = n + 1 := by simp [zpa]
      cases ho : latF L (b.seq + n + 1) with
      | none =>
        have hf := hmap.none (s := b.seq + n + 1) (by simp only [ho]; rfl)
        have hlat : batchOf (latF L (b.seq + n + 1)) = [] := by rw [ho]; rfl
        have hbt : zhF [] := ⟨by simp, by simp⟩
        have hent : zhJ (entAt view L b.seq n) = [.int .i64 view, .int .i64 (b.seq + n + 1), .slice (zbo []), .int .i64 0, .int .i64 0] := by simp only [entAt, zhJ, hlat]
        rw [hent] at hsn
        by_cases hn0 : n = 0
        · subst hn0
          simp only [if_true, List.append_nil]
          (refine gq23 (zB hf (zB hd (zB hw2 (zB hw3 hw4)))) ?_; try with_reducible exact True.intro)
          refine zpr (b := []) hbt ?_
          (refine gq23 (zB hf (zB hd (zB hw2 (zB hw3 hw4)))) ?_; try with_reducible exact True.intro)
          repeat' ((with_reducible refine And.intro ?_ ?_); focus (first | omega | rfl | decide | simp))
          try (refine gq23 (zB hf (zB hd (zB hw2 (zB hw3 hw4)))) ?_; try with_reducible exact True.intro)
          refine zaG.next (by omega) ⟨?_, ?_⟩
          · rw [if_neg (by omega), ← hsn]; rfl
          · rw [if_neg (by omega), List.length_map, hel1]
        · simp only [if_neg hn0]
          (refine gq23 (zB hf (zB hd (zB hw2 (zB hw3 hw4)))) ?_; try with_reducible exact True.intro)
          refine zpr (b := []) hbt ?_
          (refine gq23 (zB hf (zB hd (zB hw2 (zB hw3 hw4)))) ?_; try with_reducible exact True.intro)
          repeat' ((with_reducible refine And.intro ?_ ?_); focus (first | omega | (simp only [List.length_map, hel]; omega) | rfl | decide | simp))
          try (refine gq23 (zB hf (zB hd (zB hw2 (zB hw3 hw4)))) ?_; try with_reducible exact True.intro)
          refine zaG.next (by omega) ⟨?_, ?_⟩
          · rw [if_neg (by omega), ← hsn]; try rfl
          · rw [if_neg (by omega)]; simp only [List.length_map, hel, hel1, List.cons_append]
      | some r =>
        have hbt := hLs r (latF_seq ho).2
        obtain ⟨i, hf, hfi⟩ := hmap.some (s := b.seq + n + 1) (v := zfJ r) (by simp only [ho]; rfl)
        have hlat : batchOf (latF L (b.seq + n + 1)) = r.batch := by rw [ho]; rfl
        have hent : zhJ (entAt view L b.seq n) = [.int .i64 view, .int .i64 (b.seq + n + 1), .slice (zbo r.batch), .int .i64 0, .int .i64 0] := by simp only [entAt, zhJ, hlat]
        rw [hent] at hsn
        by_cases hn0 : n = 0
        · subst hn0
          simp only [if_true, List.append_nil]
          (refine gq23 (zB hf (zB hd (zB hw2 (zB hw3 hw4)))) ?_; try with_reducible exact True.intro)
          refine zpr (b := r.batch) hbt ?_
          (refine gq23 (zB hf (zB hd (zB hw2 (zB hw3 hw4)))) ?_; try with_reducible exact True.intro)
          repeat' ((with_reducible refine And.intro ?_ ?_); focus (first | omega | rfl | decide | simp))
          try (refine gq23 (zB hf (zB hd (zB hw2 (zB hw3 hw4)))) ?_; try with_reducible exact True.intro)
          refine zaG.next (by omega) ⟨?_, ?_⟩
          · rw [if_neg (by omega), ← hsn]; rfl
          · rw [if_neg (by omega), List.length_map, hel1]
        · simp only [if_neg hn0]
          (refine gq23 (zB hf (zB hd (zB hw2 (zB hw3 hw4)))) ?_; try with_reducible exact True.intro)
          refine zpr (b := r.batch) hbt ?_
          (refine gq23 (zB hf (zB hd (zB hw2 (zB hw3 hw4)))) ?_; try with_reducible exact True.intro)
          repeat' ((with_reducible refine And.intro ?_ ?_); focus (first | omega | (simp only [List.length_map, hel]; omega) | rfl | decide | simp))
          try (refine gq23 (zB hf (zB hd (zB hw2 (zB hw3 hw4)))) ?_; try with_reducible exact True.intro)
          refine zaG.next (by omega) ⟨?_, ?_⟩
          · rw [if_neg (by omega), ← hsn]; try rfl
          · rw [if_neg (by omega)]; simp only [List.length_map, hel, hel1, List.cons_append]
end Go.Proofs.YtpgahkdjkanblaaGreat
