/- Contracts: certificates whose signatures are written. -/
import Derived.Test.YtjjchfbckfopkaaGreatNo1
set_option linter.all false
set_option maxRecDepth 100000
set_option linter.unusedSimpArgs false
set_option linter.unusedVariables false
namespace Go.Proofs.YtjjchfbckfopkaaGreat
open Go.AW

abbrev oneA (t g : Nat) : AV := .agg [.d (.int .i64 0), .d (.int .i64 1), .d (.int .i64 0), .d (.int .i64 0), .d (.int .i64 0), .rsl t g 2 0 1, .d (.slice [])]
abbrev oneX (t g : Nat) : AV := .agg [.d (.int .i64 0), .d (.int .i64 1), .d (.int .i64 0), .d (.int .i64 0), .d (.int .i64 0), .rsl t g 2 0 1, .exact []]
abbrev oneR (g : Nat) (k d : Int) : zb := .row g 2 [.d (.int .i64 k), .d (.int .i64 d)]
abbrev oneM (t g : Nat) : zb := .map [(.d (.int .i64 1), oneA t g)]
section

variable {σ : List zb} {K : AV → List zb → Prop}

theorem c_heNoneB {h m : Nat} (hb : σ[h]? = some (.box [.map m])) (hK : K (.d (.bool false)) σ) : zn Tryz.prog zae [.box h 0] σ K := by
  refine zfz zcL fun hl => ?_
  simp only [zbT, iN, bT, bF, eN]
  refine gq2 hb ?_
  refine zam hl ?_
  exact hK
theorem gq39 {A P Q : Prop} (a : A) (h : Q) (e : A → Hd Q → P := by intro a h; (repeat' first | simp -dsimp only [↓zem, ↓zas, ↓zbe, ↓zen, ↓zeg, ↓zee, ↓zeh, ↓zef, ↓zbj, ↓zbf, ↓zbk, ↓zbg, ↓zei, ↓zbd, ↓zbl, ↓zbh, ↓zbm, ↓zbi, ↓zec, ↓zel, ↓zbc, ↓zbo, ↓zdY, ↓zdX, ↓zeb, iN, bT, bF, eN, ↓zcx, ↓unC, ↓zU, ↓zE, ↓zF, ↓zI, ↓zaa, ↓zaE, ↓zco, ↓zZ, ↓zbw, ↓zQ, ↓zl, ↓zm, ↓zbF, ↓zf, ↓zab, ↓zK, ↓zay, ↓zaD, ↓zc, ↓zy, ↓zi, ↓zr, ↓zai, ↓zcz, ↓zcG, ↓zal, ↓zap, ↓zax, ↓zaG, ↓zaN, ↓zj, ↓zad, ↓zG, ↓zq, ↓zX, zcE, zaZ, zaW, unA, zcH, bnd, zdj, zY, zac, zdk, dm, dm1, zJ, zar, zdD, zdC, zT, Q0, Q1, Q2, Q3, Q4, Q5, zS, zg, zp, zu, zC, Q6, Q7, Q8, Q9, Q10, Q11, Q12, Q13, Q14, Nat.reduceAdd, Q15, Int.reduceToNat, Q16, Q17, Q18, Q19, Q20, reduceIte, Q21, Q22, zA, rep, zV, zdZ, toD, zaj, Q23, Q24, Q25, Q26, Q27, Q28, Nat.reduceLeDiff, Q29, Nat.reduceSub, Q30, Q31, Q32, sc, Q33, Q34, Q35, Q36, Q37, Q26, Q38, Q39, zjL, zjI, zjF, zjM, zdO, zjJ, zjG, zjK, zjH, zdN, zdP, zjT, zjU, Bool.not_true, Bool.not_false, List.length_map, Bool.and_false, Bool.and_self, Bool.false_and, Bool.not_false, Bool.not_true, Bool.true_and, Int.toNat_natCast, Int.toNat_zero, List.drop_zero, List.length_map, List.length_nil, List.nil_append, List.take_length, Nat.sub_zero, Nat.zero_add, Option.isSome_none, Option.isSome_some, Option.map_none, Option.map_some, zgs, zaq, beq_self_eq_true, bne_self_eq_false, zlZ, zdk, a] | with_reducible refine zkm ?_ | fail); exact h.go) : P := e a ⟨h⟩
theorem c_clSignR {k d : Int} {t g : Nat} (ht : σ[t]? = some (oneR g k d)) (hK : ∀ g', K (.rsl σ.length g' 2 0 1) (σ ++ [oneR g' k d])) : zn Tryz.prog zag [.rsl t g 2 0 1] σ K := by
  refine zfT zbM.is rfl fun hl _ => zbM.goes ?_
  simp only [zbN, iN, bT, bF, eN]
  have ht' : ∀ τ, (σ ++ τ)[t]? = some (oneR g k d) := fun τ => zk ht
  simp only [zai, zcH]
  refine ⟨by simp, fun _ => ?_⟩
  refine gq39 (zo ht ht') ?_
  exact endsA (hK 1)
theorem znB {k d : Int} {t g : Nat} (ht : σ[t]? = some (oneR g k d)) (hK : ∀ S t' g', S[t']? = some (oneR g' k d) → σ.length ≤ t' → (∀ (j : Nat) (x : zb), σ[j]? = some x → S[j]? = some x) → K (oneA t' g') S) : zn Tryz.prog zaI [oneA t g] σ K := by
  refine zfT zfN.is rfl fun hl _ => zfN.goes ?_
  simp only [zfV, iN, bT, bF, eN, zl0]
  refine gq1 ?_
  refine c_clSignR (k := k) (d := d) (zk ht) fun g' => ?_
  refine gq1 ?_
  refine c_rqClone (b := []) ⟨by simp, by simp⟩ ?_
  refine gq1 ?_
  exact endsA (hK _ (σ.length + 2) g' (by rw [zg]; rfl) (by omega) fun j x hx => zk hx)
theorem gq40 {A P Q : Prop} (a : A) (h : Q) (e : A → Hd Q → P := by intro a h; (repeat' first | simp -dsimp only [↓zem, ↓zas, ↓zbe, ↓zen, ↓zeg, ↓zee, ↓zeh, ↓zef, ↓zbj, ↓zbf, ↓zbk, ↓zbg, ↓zei, ↓zbd, ↓zbl, ↓zbh, ↓zbm, ↓zbi, ↓zec, ↓zel, ↓zbc, ↓zbo, ↓zdY, ↓zdX, ↓zeb, iN, bT, bF, eN, ↓zcx, ↓unC, ↓zU, ↓zE, ↓zF, ↓zI, ↓zaa, ↓zaE, ↓zco, ↓zZ, ↓zbw, ↓zQ, ↓zl, ↓zm, ↓zbF, ↓zf, ↓zab, ↓zK, ↓zay, ↓zaD, ↓zc, ↓zy, ↓zi, ↓zr, ↓zai, ↓zcz, ↓zcG, ↓zal, ↓zap, ↓zax, ↓zaG, ↓zaN, ↓zj, ↓zad, ↓zG, ↓zq, ↓zX, zcE, zaZ, zaW, unA, zcH, bnd, zdj, zY, zac, zdk, dm, dm1, zJ, zar, zdD, zdC, zT, Q0, Q1, Q2, Q3, Q4, Q5, zS, zg, zp, zu, zC, Q6, Q7, Q8, Q9, Q10, Q11, Q12, Q13, Q14, Nat.reduceAdd, Q15, Int.reduceToNat, Q16, Q17, Q18, Q19, Q20, reduceIte, Q21, Q22, zA, rep, zV, zdZ, toD, zaj, Q23, Q24, Q25, Q26, Q27, Q28, Nat.reduceLeDiff, Q29, Nat.reduceSub, Q30, Q31, Q32, sc, Q33, Q34, Q35, Q36, Q37, Q26, Q38, Q39, zjL, zjI, zjF, zjM, zdO, zjJ, zjG, zjK, zjH, zdN, zdP, zjT, zjU, Bool.not_true, Bool.not_false, List.length_map, Option.map_some, zcv, zdF, zcR, zgL, zax, mgetR, a] | with_reducible refine zkm ?_ | fail); exact h.go) : P := e a ⟨h⟩
theorem gq41 {A P Q : Prop} (a : A) (h : Q) (e : A → Hd Q → P := by intro a h; (repeat' first | simp -dsimp only [↓zem, ↓zas, ↓zbe, ↓zen, ↓zeg, ↓zee, ↓zeh, ↓zef, ↓zbj, ↓zbf, ↓zbk, ↓zbg, ↓zei, ↓zbd, ↓zbl, ↓zbh, ↓zbm, ↓zbi, ↓zec, ↓zel, ↓zbc, ↓zbo, ↓zdY, ↓zdX, ↓zeb, iN, bT, bF, eN, ↓zcx, ↓unC, ↓zU, ↓zE, ↓zF, ↓zI, ↓zaa, ↓zaE, ↓zco, ↓zZ, ↓zbw, ↓zQ, ↓zl, ↓zm, ↓zbF, ↓zf, ↓zab, ↓zK, ↓zay, ↓zaD, ↓zc, ↓zy, ↓zi, ↓zr, ↓zai, ↓zcz, ↓zcG, ↓zal, ↓zap, ↓zax, ↓zaG, ↓zaN, ↓zj, ↓zad, ↓zG, ↓zq, ↓zX, zcE, zaZ, zaW, unA, zcH, bnd, zdj, zY, zac, zdk, dm, dm1, zJ, zar, zdD, zdC, zT, Q0, Q1, Q2, Q3, Q4, Q5, zS, zg, zp, zu, zC, Q6, Q7, Q8, Q9, Q10, Q11, Q12, Q13, Q14, Nat.reduceAdd, Q15, Int.reduceToNat, Q16, Q17, Q18, Q19, Q20, reduceIte, Q21, Q22, zA, rep, zV, zdZ, toD, zaj, Q23, Q24, Q25, Q26, Q27, Q28, Nat.reduceLeDiff, Q29, Nat.reduceSub, Q30, Q31, Q32, sc, Q33, Q34, Q35, Q36, Q37, Q26, Q38, Q39, zjL, zjI, zjF, zjM, zdO, zjJ, zjG, zjK, zjH, zdN, zdP, zjT, zjU, Bool.not_true, Bool.not_false, List.length_map, z1, a] | with_reducible refine zkm ?_ | fail); exact h.go) : P := e a ⟨h⟩
theorem c_heGetR {h m t g : Nat} {k d : Int} (hb0 : σ[h]? = some (.box [.map m])) (hm0 : σ[m]? = some (oneM t g)) (ht : σ[t]? = some (oneR g k d))
    (hK : ∀ S t' g', S[t']? = some (oneR g' k d) → σ.length ≤ t' → (∀ (j : Nat) (x : zb), σ[j]? = some x → S[j]? = some x) → K (.tup [oneA t' g', .d (.bool true)]) S) :
    zn Tryz.prog zaJ [.box h 0, .d (.int .i64 1)] σ K := by
  refine zfT zeD.is rfl fun hl _ => zeD.goes ?_
  have hb : ∀ τ, (σ ++ τ)[h]? = some (.box [.map m]) := fun τ => zk hb0
  have hm : ∀ τ, (σ ++ τ)[m]? = some (oneM t g) := fun τ => zk hm0
  simp only [zeF, iN, bT, bF, eN, zl0]
  refine gq1 ?_
  refine c_heNoneB (zk hb0) ?_
  refine gq40 (zo hb (zo hm (show ((1 : Int) == 1) = true from rfl))) ?_
  refine znB (k := k) (d := d) (zk ht) fun S t' g' h1 h3 h2 => ?_
  have z1 : S[σ.length]? = some (.box [.d (.int .i64 0), .d (.int .i64 0), .d (.int .i64 0), .d (.int .i64 0), .d (.int .i64 0), .exact [], .exact []]) := h2 _ _ (by rw [zp]; rfl)
  have zt : σ.length ≠ t' := fun e => by rw [← e, z1] at h1; cases h1
  have zs : ∀ X, (S.set σ.length X)[σ.length]? = some X := fun X => List.getElem?_set_self (zdt z1)
  refine gq41 zs ?_
  refine endsA (hK _ t' g' ((List.getElem?_set_ne zt).trans h1) (by simp at h3; omega) fun j x hx => ?_)
  rw [List.getElem?_set_ne (by have := zdt hx; omega)]
  exact h2 _ _ (zk hx)
theorem c_hePutR {h m t g : Nat} {k d : Int} (H : zkU σ h m []) (ht : σ[t]? = some (oneR g k d))
    (hK : ∀ S t' g', S[h]? = some (.box [.map m]) → S[m]? = some (oneM t' g') → S[t']? = some (oneR g' k d) → σ.length ≤ t' → (∀ (j : Nat) (x : zb), j ≠ m → σ[j]? = some x → S[j]? = some x) → K (.d (.bool true)) S) :
    zn Tryz.prog zaA [.box h 0, oneX t g] σ K := by
  refine zfT zcg.is rfl fun hl _ => zcg.goes ?_
  have hb : ∀ τ, (σ ++ τ)[h]? = some (.box [.map m]) := fun τ => zk H.box
  have hm : ∀ τ, (σ ++ τ)[m]? = some (.map (hE [])) := fun τ => zk H.map
  have hhm : h ≠ m := fun e => by have := H.box; rw [e, H.map] at this; cases this
  have hml := zdt H.map
  have hf := zok 1 [] 0
  rw [show zor 1 [] 0 = none from rfl] at hf
  simp only [zci, iN, bT, bF, eN, zl0]
  refine gq1 ?_
  refine zoI (H.app _) ?_
  refine gq3 (zo (show decide ((1 : Int) < 1) = false from rfl) (zo (show decide ((1 : Int) > 9007199254740992) = false from rfl) (zo hb (zo hm hf)))) ?_
  refine znB (k := k) (d := d) (zk ht) fun S t' g' h1 h3 h2 => ?_
  have s1 : S[h]? = some (.box [.map m]) := h2 _ _ (hb _)
  have s2 : S[m]? = some (.map (hE [])) := h2 _ _ (hm _)
  have s3 : S[σ.length]? = some (.box [.d (.int .i64 0), .d (.int .i64 1), .d (.int .i64 0), .d (.int .i64 0), .d (.int .i64 0), .rsl t g 2 0 1, .exact []]) := h2 _ _ (by rw [zp]; rfl)
  have tm : m ≠ t' := fun e => by rw [← e, s2] at h1; cases h1
  refine gq3 (zo hb (zo s1 (zo s2 (zo s3 hf)))) ?_
  refine endsA (hK _ t' g' ?_ ?_ ?_ (by simp at h3; omega) fun j x hj hx => ?_)
  · rw [List.getElem?_set_ne (Ne.symm hhm)]; exact s1
  · rw [List.getElem?_set_self (zdt s2)]; rfl
  · rw [List.getElem?_set_ne tm]; exact h1
  · rw [List.getElem?_set_ne (Ne.symm hj)]; exact h2 _ _ (zk hx)
end

end Go.Proofs.YtjjchfbckfopkaaGreat
