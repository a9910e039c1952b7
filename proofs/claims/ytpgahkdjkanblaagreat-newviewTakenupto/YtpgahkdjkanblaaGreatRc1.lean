/- Contracts: what is wrong with requests, signatures and batches, on both sides. -/
import Derived.Test.YtpgahkdjkanblaaGreatCodec1
import Derived.Test.YtpgahkdjkanblaaGreatRq1
import Derived.Test.YtpgahkdjkanblaaGreatSpTab
set_option linter.all false
set_option maxRecDepth 100000
set_option linter.unusedSimpArgs false
set_option linter.unusedVariables false
namespace Go.Proofs.YtpgahkdjkanblaaGreat
open Go.AW

theorem zaF {P Q : Prop} (h : Q) (e : Hd Q → P := by intro h; (repeat' first | simp -dsimp only [↓zfa, ↓zat, ↓zbt, ↓zfb, ↓zeW, ↓zeU, ↓zeX, ↓zeV, ↓zby, ↓zbu, ↓zbz, ↓zbv, ↓zeY, ↓zbs, ↓zbA, ↓zbw, ↓zbB, ↓zbx, ↓zeT, ↓zeZ, ↓zbr, ↓zbC, ↓zeQ, ↓zeP, ↓zeS, iN, bT, bF, eN, ↓zcO, ↓unC, ↓zP, ↓zG, ↓zH, ↓zK, ↓zW, ↓zaz, ↓zdn, ↓zau, ↓zbf, ↓zQ, ↓zg, ↓zf, ↓zbY, ↓zb, ↓zae, ↓zL, ↓zaN, ↓zaO, ↓zc, ↓zB, ↓zj, ↓zE, ↓zY, ↓zdz, ↓zdA, ↓zam, ↓zap, ↓zaK, ↓zaV, ↓zbj, ↓zm, ↓zai, ↓zJ, ↓zr, ↓zT, zdD, zbo, zbk, unA, zcZ, bnd, zdZ, zac, zR, zdT, dm, dm1, zI, zan, zeq, zep, zZ, Q0, Q1, Q2, Q3, Q4, Q5, zX, zn, zo, zF, zA, Q6, Q7, Q8, Q9, Q10, Q11, Q12, Q13, Q14, Nat.reduceAdd, Q15, Int.reduceToNat, Q16, Q17, Q18, Q19, Q20, reduceIte, Q21, Q22, zw, rep, zU, zeo, toD, zaa, Q23, Q24, Q25, Q26, Q27, Q28, Nat.reduceLeDiff, Q29, Nat.reduceSub, Q30, Q31, Q32, sc, Q33, Q34, Q35, Q36, Q37, Q26, Q38, Q39, zlJ, zlG, zlD, zlK, zeM, zlH, zlE, zlI, zlF, zeL, zeN, zlL, zlM, Bool.not_true, Bool.not_false, List.length_map] | with_reducible refine zmc ?_ | fail); exact h.go) : P := e ⟨h⟩
theorem c_rqCheck {σ : List zd} {x : zu} (hx : okO x.op) {K : KT} (hK : K (.d (.int .i64 (zaT x))) σ) : zl Tryz.prog zgm [reqA x] σ K := by
  refine ze zmU.is rfl fun hl _ => zmU.goes ?_
  have fin : ∀ z, zaT x = z → K (.d (.int .i64 z)) σ := fun z h => h ▸ hK
  clear hK
  simp only [zni, iN, bT, bF, eN, reqA]
  (repeat' (first | (refine gq3 ?_; try with_reducible exact True.intro) | (refine zaU (fun h => ?_) (fun h => ?_) <;> (try rw [h])) | ((with_reducible refine And.intro ?_ ?_); focus (first | omega | rfl | decide))))
  all_goals first
    | (refine zV hl ?_
       (try simp only [decide_eq_true_eq, decide_eq_false_iff_not, beq_iff_eq, beq_eq_false_iff_ne, bne_iff_ne, ne_eq, Bool.not_eq_true', Bool.not_eq_false', bne_eq_false_iff_eq] at *)
       exact fin _ (by rw [zaT, if_pos (by omega)]))
    | skip
  refine c_Check (o := x.op) hx.1 hx.2.1 hx.2.2.1 ?_
  refine zaF ?_
  refine zV hl ?_
  (try simp only [decide_eq_true_eq, decide_eq_false_iff_not, beq_iff_eq, beq_eq_false_iff_ne, bne_iff_ne, ne_eq, Bool.not_eq_true', Bool.not_eq_false', bne_eq_false_iff_eq] at *)
  exact fin _ (by rw [zaT, if_neg (by omega)])
theorem zdO {σ : List zd} {k d : Int} {K : KT} (hK : K (.d (.int .i64 (zag k d))) σ) : zl Tryz.prog zbn [.agg [.d (.int .i64 k), .d (.int .i64 d)]] σ K := by
  refine ze zjf.is rfl fun hl _ => zjf.goes ?_
  have fin : ∀ z, zag k d = z → K (.d (.int .i64 z)) σ := fun z h => h ▸ hK
  clear hK
  simp only [zjv, iN, bT, bF, eN]
  (repeat' (first | (refine gq3 ?_; try with_reducible exact True.intro) | (refine zaU (fun h => ?_) (fun h => ?_) <;> (try rw [h])) | ((with_reducible refine And.intro ?_ ?_); focus (first | omega | rfl | decide))))
  all_goals
    refine zV hl ?_
    (try simp only [decide_eq_true_eq, decide_eq_false_iff_not, beq_iff_eq, beq_eq_false_iff_ne, bne_iff_ne, ne_eq, Bool.not_eq_true', Bool.not_eq_false', bne_eq_false_iff_eq] at *)
    first | exact fin _ (by rw [zag, if_pos (by omega)]) | exact fin _ (by rw [zag, if_neg (by omega)])
end Go.Proofs.YtpgahkdjkanblaaGreat

/- Contracts: what is asked of a proof, the program's. -/
set_option maxRecDepth 100000
set_option linter.unusedSimpArgs false
set_option linter.unusedVariables false
namespace Go.Proofs.YtpgahkdjkanblaaGreat
open Go.AW

abbrev zgi (e : Int) : zd := .box [.d (.int .i64 e)]
theorem ziJ (n : Nat) (e : Int) : zrE n (zgi e) := by
  intro c hc
  simp only [List.mem_cons, List.not_mem_nil, or_false] at hc
  subst hc; exact .d _
theorem zay {A P Q : Prop} (a : A) (h : Q) (e : A → Hd Q → P := by intro a h; (repeat' first | simp -dsimp only [↓zfa, ↓zat, ↓zbt, ↓zfb, ↓zeW, ↓zeU, ↓zeX, ↓zeV, ↓zby, ↓zbu, ↓zbz, ↓zbv, ↓zeY, ↓zbs, ↓zbA, ↓zbw, ↓zbB, ↓zbx, ↓zeT, ↓zeZ, ↓zbr, ↓zbC, ↓zeQ, ↓zeP, ↓zeS, iN, bT, bF, eN, ↓zcO, ↓unC, ↓zP, ↓zG, ↓zH, ↓zK, ↓zW, ↓zaz, ↓zdn, ↓zau, ↓zbf, ↓zQ, ↓zg, ↓zf, ↓zbY, ↓zb, ↓zae, ↓zL, ↓zaN, ↓zaO, ↓zc, ↓zB, ↓zj, ↓zE, ↓zY, ↓zdz, ↓zdA, ↓zam, ↓zap, ↓zaK, ↓zaV, ↓zbj, ↓zm, ↓zai, ↓zJ, ↓zr, ↓zT, zdD, zbo, zbk, unA, zcZ, bnd, zdZ, zac, zR, zdT, dm, dm1, zI, zan, zeq, zep, zZ, Q0, Q1, Q2, Q3, Q4, Q5, zX, zn, zo, zF, zA, Q6, Q7, Q8, Q9, Q10, Q11, Q12, Q13, Q14, Nat.reduceAdd, Q15, Int.reduceToNat, Q16, Q17, Q18, Q19, Q20, reduceIte, Q21, Q22, zw, rep, zU, zeo, toD, zaa, Q23, Q24, Q25, Q26, Q27, Q28, Nat.reduceLeDiff, Q29, Nat.reduceSub, Q30, Q31, Q32, sc, Q33, Q34, Q35, Q36, Q37, Q26, Q38, Q39, zlJ, zlG, zlD, zlK, zeM, zlH, zlE, zlI, zlF, zeL, zeN, zlL, zlM, Bool.not_true, Bool.not_false, List.length_map, a] | with_reducible refine zmc ?_ | fail); exact h.go) : P := e a ⟨h⟩
theorem c_says {σ : List zd} {id : Nat} {e x : Int} (hσ : σ[id]? = some (zgi e)) {K : KT} (hK : K (.tup []) (σ.set id (zgi (zmA e x)))) : zl Tryz.prog zN [.box id 0, .d (.int .i64 x)] σ K := by
  refine ze zit.is rfl fun hl _ => zit.goes ?_
  simp only [ziA, iN, bT, bF, eN]
  cases h : (e == 0)
  · rw [zmA, if_pos (by simpa using h), zeu hσ] at hK
    refine zay (zq hσ h) ?_
    refine zV hl ?_
    exact hK
  · rw [zmA, if_neg (by simpa using h)] at hK
    refine zay (zq hσ h) ?_
    exact zfW (by simp [zdy, dmT, zbL]) hl (ziJ _ _) hK
theorem thn_0 (e : Int) : zmA e 0 = e := by
  unfold zmA; split
  · rfl
  · rename_i h; simp at h; exact h.symm
theorem zve {σ : List zd} {id : Nat} {e n lo hi : Int} (hσ : σ[id]? = some (zgi e)) {K : KT} (hK : K (.tup []) (σ.set id (zgi (zmA e (inE n lo hi))))) :
    zl Tryz.prog zaC [.box id 0, .d (.int .i64 n), .d (.int .i64 lo), .d (.int .i64 hi)] σ K := by
  refine ze zjV.is rfl fun hl _ => zjV.goes ?_
  simp only [zki, iN, bT, bF, eN]
  have bad : (n < lo ∨ n > hi) → zl Tryz.prog zN [.box id 0, .d (.int .i64 100)] σ fun _ s => AW.Ends σ.length K (some []) s := fun h => by
    rw [inE, if_pos h] at hK
    refine c_says hσ ?_
    exact zfW (by simp [zdy, dmT, zbL]) hl (ziJ _ _) hK
  cases h1 : decide (n < lo)
  · cases h2 : decide (n > hi)
    · rw [inE, if_neg (by simp at h1 h2; omega), thn_0, zeu hσ] at hK
      refine zay (zq h1 h2) ?_
      refine zV hl ?_
      exact hK
    · refine zay (zq h1 h2) ?_
      exact bad (.inr (by simpa using h2))
  · refine zay h1 ?_
    exact bad (.inl (by simpa using h1))
theorem zvd {σ : List zd} {id : Nat} {e n : Int} (hσ : σ[id]? = some (zgi e)) {K : KT} (hK : K (.tup []) (σ.set id (zgi (zmA e (zpU n))))) :
    zl Tryz.prog zaq [.box id 0, .d (.int .i64 n)] σ K := by
  refine ze zjm.is rfl fun hl _ => zjm.goes ?_
  simp only [zjC, iN, bT, bF, eN]
  refine zaF ?_
  refine zve hσ ?_
  exact zfW (by simp [zdy, dmT, zbL]) hl (ziJ _ _) hK
theorem c_askPos {σ : List zd} {id : Nat} {e n : Int} (hσ : σ[id]? = some (zgi e)) {K : KT} (hK : K (.tup []) (σ.set id (zgi (zmA e (posE n))))) :
    zl Tryz.prog zaE [.box id 0, .d (.int .i64 n)] σ K := by
  refine ze zjl.is rfl fun hl _ => zjl.goes ?_
  simp only [zjB, iN, bT, bF, eN]
  refine zaF ?_
  refine zve hσ ?_
  exact zfW (by simp [zdy, dmT, zbL]) hl (ziJ _ _) hK
theorem c_askMany {σ : List zd} {id : Nat} {e n hi : Int} (hσ : σ[id]? = some (zgi e)) {K : KT} (hK : K (.tup []) (σ.set id (zgi (zmA e (inE n 0 hi))))) :
    zl Tryz.prog zbe [.box id 0, .d (.int .i64 n), .d (.int .i64 hi)] σ K := by
  refine ze ziu.is rfl fun hl _ => ziu.goes ?_
  simp only [ziB, iN, bT, bF, eN]
  refine zaF ?_
  refine zve hσ ?_
  exact zfW (by simp [zdy, dmT, zbL]) hl (ziJ _ _) hK
theorem fst_snoc (e : Int) (l : List Int) (x : Int) : zmA (zec (e :: l)) x = zec (e :: (l ++ [x])) := by
  rw [show e :: (l ++ [x]) = (e :: l) ++ [x] from rfl, zuM]
  unfold zmA
  split
  · rfl
  · simp [zec]
theorem zph {α β : Type} {f : α → β} {l : List α} {k : Nat} {x : α} (h : l[k]? = some x) : (l.take (k + 1)).map f = (l.take k).map f ++ [f x] := by
  rw [List.take_add_one, h]; simp
theorem wkc (k : Nat) (h : k ≤ 1073741824) : IntKind.i64.wrap ((k : Int) + 1) = ((k + 1 : Nat) : Int) := by rw [zbE (by omega) (by omega)]; rfl
theorem fst1 (e x : Int) : zec [e, x] = zmA e x := by
  unfold zmA
  simp only [zec]
  split
  · rfl
  · split
    · rfl
    · rename_i h; simp at h; exact h.symm
theorem bft : ((false : Bool) == true) = false := rfl
theorem btf : ((true : Bool) == false) = false := rfl
theorem znN {A P Q : Prop} (a : A) (h : Q) (e : A → Hd Q → P := by intro a h; (repeat' first | simp -dsimp only [↓zfa, ↓zat, ↓zbt, ↓zfb, ↓zeW, ↓zeU, ↓zeX, ↓zeV, ↓zby, ↓zbu, ↓zbz, ↓zbv, ↓zeY, ↓zbs, ↓zbA, ↓zbw, ↓zbB, ↓zbx, ↓zeT, ↓zeZ, ↓zbr, ↓zbC, ↓zeQ, ↓zeP, ↓zeS, iN, bT, bF, eN, ↓zcO, ↓unC, ↓zP, ↓zG, ↓zH, ↓zK, ↓zW, ↓zaz, ↓zdn, ↓zau, ↓zbf, ↓zQ, ↓zg, ↓zf, ↓zbY, ↓zb, ↓zae, ↓zL, ↓zaN, ↓zaO, ↓zc, ↓zB, ↓zj, ↓zE, ↓zY, ↓zdz, ↓zdA, ↓zam, ↓zap, ↓zaK, ↓zaV, ↓zbj, ↓zm, ↓zai, ↓zJ, ↓zr, ↓zT, zdD, zbo, zbk, unA, zcZ, bnd, zdZ, zac, zR, zdT, dm, dm1, zI, zan, zeq, zep, zZ, Q0, Q1, Q2, Q3, Q4, Q5, zX, zn, zo, zF, zA, Q6, Q7, Q8, Q9, Q10, Q11, Q12, Q13, Q14, Nat.reduceAdd, Q15, Int.reduceToNat, Q16, Q17, Q18, Q19, Q20, reduceIte, Q21, Q22, zw, rep, zU, zeo, toD, zaa, Q23, Q24, Q25, Q26, Q27, Q28, Nat.reduceLeDiff, Q29, Nat.reduceSub, Q30, Q31, Q32, sc, Q33, Q34, Q35, Q36, Q37, Q26, Q38, Q39, zlJ, zlG, zlD, zlK, zeM, zlH, zlE, zlI, zlF, zeL, zeN, zlL, zlM, Bool.not_true, Bool.not_false, List.length_map, zbH, zdC, hdrD, zdB, opA, zgI, zgH, zic, zbl, a] | with_reducible refine zmc ?_ | fail); exact h.go) : P := e a ⟨h⟩
theorem zuc {σ : List zd} {id : Nat} {e : Int} {l : List zt} (hσ : σ[id]? = some (zgi e)) (hl0 : l.length ≤ 1073741824) {K : KT} (hK : K (.tup []) (σ.set id (zgi (zmA e (zec (zfs l)))))) :
    zl Tryz.prog zaS [.box id 0, .d (.slice (zab l))] σ K := by
  refine ze zhR.is rfl fun hl _ => zhR.goes ?_
  have hlen : (zab l).length = l.length := List.length_map ..
  have hid := zcx hσ
  rw [thn_fst, zfs] at hK
  simp only [zhY, iN, bT, bF, eN]
  refine zay hlen ?_
  refine c_askMany hσ ?_
  refine zay hlen ?_
  refine zy l.length (fun k vs s => vs = [.d (.int .i64 k)] ∧ ∃ T, s = σ.set id (zgi (zec (e :: (inE l.length 0 13 :: (l.take k).map fun s => zag s.key s.dig)))) ++ T) ⟨rfl, [], by rw [List.take_zero, List.map_nil, fst1, List.append_nil]⟩ ?_
  rintro k vs s hk ⟨rfl, T, rfl⟩
  by_cases hlt : k < l.length
  · have hd : decide ((k : Int) < (l.length : Int)) = true := by simp; omega
    have hx : l[k]? = some l[k] := by simp [hlt]
    have hgx := zal (f := zgH) hx
    obtain ⟨x, hxe⟩ : ∃ x, l[k] = x := ⟨_, rfl⟩
    rw [hxe] at hx hgx
    have hmn := zph (f := fun s : zt => zag s.key s.dig) hx
    have fs := fst_snoc e (inE l.length 0 13 :: (l.take k).map fun s => zag s.key s.dig) (zag x.key x.dig)
    simp only [List.cons_append] at fs
    rw [← hmn] at fs
    obtain ⟨E, hE⟩ : ∃ E, zec (e :: (inE l.length 0 13 :: (l.take k).map fun s => zag s.key s.dig)) = E := ⟨_, rfl⟩
    rw [hE] at fs ⊢
    have hS : ∀ τ, (σ.set id (zgi E) ++ τ)[id]? = some (zgi E) := fun τ => zM (zcL hσ)
    refine znN (zq hd (zq hgx hlen)) ?_
    refine zdO ?_
    refine zaF ?_
    refine c_says (e := E) (hS _) ?_
    rw [zea (zcL hσ), List.set_set]
    refine zay (wkc k (by omega)) ?_
    exact zbp.next hlt ⟨rfl, _, by rw [fs]⟩
  · have hd : decide ((k : Int) < (l.length : Int)) = false := by simp; omega
    rw [List.take_of_length_le (by omega)]
    refine zay hd ?_
    exact zgd (by simp [zdy, dmT, zbL]) hl (ziJ _ _) hK
theorem gq43 {A P Q : Prop} (a : A) (h : Q) (e : A → Hd Q → P := by intro a h; (repeat' first | simp -dsimp only [↓zfa, ↓zat, ↓zbt, ↓zfb, ↓zeW, ↓zeU, ↓zeX, ↓zeV, ↓zby, ↓zbu, ↓zbz, ↓zbv, ↓zeY, ↓zbs, ↓zbA, ↓zbw, ↓zbB, ↓zbx, ↓zeT, ↓zeZ, ↓zbr, ↓zbC, ↓zeQ, ↓zeP, ↓zeS, iN, bT, bF, eN, ↓zcO, ↓unC, ↓zP, ↓zG, ↓zH, ↓zK, ↓zW, ↓zaz, ↓zdn, ↓zau, ↓zbf, ↓zQ, ↓zg, ↓zf, ↓zbY, ↓zb, ↓zae, ↓zL, ↓zaN, ↓zaO, ↓zc, ↓zB, ↓zj, ↓zE, ↓zY, ↓zdz, ↓zdA, ↓zam, ↓zap, ↓zaK, ↓zaV, ↓zbj, ↓zm, ↓zai, ↓zJ, ↓zr, ↓zT, zdD, zbo, zbk, unA, zcZ, bnd, zdZ, zac, zR, zdT, dm, dm1, zI, zan, zeq, zep, zZ, Q0, Q1, Q2, Q3, Q4, Q5, zX, zn, zo, zF, zA, Q6, Q7, Q8, Q9, Q10, Q11, Q12, Q13, Q14, Nat.reduceAdd, Q15, Int.reduceToNat, Q16, Q17, Q18, Q19, Q20, reduceIte, Q21, Q22, zw, rep, zU, zeo, toD, zaa, Q23, Q24, Q25, Q26, Q27, Q28, Nat.reduceLeDiff, Q29, Nat.reduceSub, Q30, Q31, Q32, sc, Q33, Q34, Q35, Q36, Q37, Q26, Q38, Q39, zlJ, zlG, zlD, zlK, zeM, zlH, zlE, zlI, zlF, zeL, zeN, zlL, zlM, Bool.not_true, Bool.not_false, List.length_map, beq_self_eq_true, bft, btf, a] | with_reducible refine zmc ?_ | fail); exact h.go) : P := e a ⟨h⟩
theorem gq44 {A P Q : Prop} (a : A) (h : Q) (e : A → Hd Q → P := by intro a h; (repeat' first | simp -dsimp only [↓zfa, ↓zat, ↓zbt, ↓zfb, ↓zeW, ↓zeU, ↓zeX, ↓zeV, ↓zby, ↓zbu, ↓zbz, ↓zbv, ↓zeY, ↓zbs, ↓zbA, ↓zbw, ↓zbB, ↓zbx, ↓zeT, ↓zeZ, ↓zbr, ↓zbC, ↓zeQ, ↓zeP, ↓zeS, iN, bT, bF, eN, ↓zcO, ↓unC, ↓zP, ↓zG, ↓zH, ↓zK, ↓zW, ↓zaz, ↓zdn, ↓zau, ↓zbf, ↓zQ, ↓zg, ↓zf, ↓zbY, ↓zb, ↓zae, ↓zL, ↓zaN, ↓zaO, ↓zc, ↓zB, ↓zj, ↓zE, ↓zY, ↓zdz, ↓zdA, ↓zam, ↓zap, ↓zaK, ↓zaV, ↓zbj, ↓zm, ↓zai, ↓zJ, ↓zr, ↓zT, zdD, zbo, zbk, unA, zcZ, bnd, zdZ, zac, zR, zdT, dm, dm1, zI, zan, zeq, zep, zZ, Q0, Q1, Q2, Q3, Q4, Q5, zX, zn, zo, zF, zA, Q6, Q7, Q8, Q9, Q10, Q11, Q12, Q13, Q14, Nat.reduceAdd, Q15, Int.reduceToNat, Q16, Q17, Q18, Q19, Q20, reduceIte, Q21, Q22, zw, rep, zU, zeo, toD, zaa, Q23, Q24, Q25, Q26, Q27, Q28, Nat.reduceLeDiff, Q29, Nat.reduceSub, Q30, Q31, Q32, sc, Q33, Q34, Q35, Q36, Q37, Q26, Q38, Q39, zlJ, zlG, zlD, zlK, zeM, zlH, zlE, zlI, zlF, zeL, zeN, zlL, zlM, Bool.not_true, Bool.not_false, List.length_map, bft, btf, a] | with_reducible refine zmc ?_ | fail); exact h.go) : P := e a ⟨h⟩
theorem c_askCert {σ : List zd} {id : Nat} {e : Int} {c : zfB} (hσ : σ[id]? = some (zgi e)) (hl0 : c.signs.length ≤ 1073741824) {K : KT} (hK : K (.tup []) (σ.set id (zgi (zmA e (zec (zfq c)))))) :
    zl Tryz.prog zck [.box id 0, zfX c] σ K := by
  refine ze ziv.is rfl fun hl _ => ziv.goes ?_
  have hlen : (zab c.signs).length = c.signs.length := List.length_map ..
  simp only [ziC, iN, bT, bF, eN, zfX]
  have hB : ∀ X, (σ.set id X ++ [zd.box [AV.d (D.int .i64 c.seq), AV.d (D.int .i64 c.dig), AV.d (D.slice (zab c.signs))]])[σ.length]? = some (zd.box [AV.d (D.int .i64 c.seq), AV.d (D.int .i64 c.dig), AV.d (D.slice (zab c.signs))]) := fun X => by
    rw [List.getElem?_append_right (by simp)]; simp
  have hS : ∀ E τ, (σ.set id (zgi E) ++ τ)[id]? = some (zgi E) := fun E τ => zM (zcL hσ)
  have hP : ∀ E Y τ, (σ.set id (zgi E) ++ τ).set id Y = σ.set id Y ++ τ := fun E Y τ => by rw [zea (zcL hσ), List.set_set]
  have e4 : zmA e (zec (zfq c)) = zmA (zmA (zmA (zmA e (zpU c.seq)) (zpU c.dig)) (zjr c)) (zec (zfs c.signs)) := by
    simp only [zfq, zec, zmA]
    by_cases h0 : e = 0
    · by_cases h1 : zpU c.seq = 0
      · by_cases h2 : zpU c.dig = 0
        · by_cases h3 : zjr c = 0
          · simp [h0, h1, h2, h3]
          · simp [h0, h1, h2, h3]
        · simp [h0, h1, h2]
      · simp [h0, h1]
    · simp [h0]
  rw [e4] at hK
  refine zaF ?_
  refine zvd (zM hσ) ?_
  rw [zea hσ]
  refine zay hB ?_
  refine zvd (hS _ _) ?_
  rw [hP]
  obtain ⟨E, hE⟩ : ∃ E, zmA (zmA e (zpU c.seq)) (zpU c.dig) = E := ⟨_, rfl⟩
  rw [hE] at hK ⊢
  have tail : ∀ M, M = zjr c → zl Tryz.prog zaS [.box id 0, .d (.slice (zab c.signs))] (σ.set id (zgi (zmA E M)) ++ [zd.box [AV.d (D.int .i64 c.seq), AV.d (D.int .i64 c.dig), AV.d (D.slice (zab c.signs))]]) fun _ s => AW.Ends σ.length K (some []) s := fun M hM => by
    subst hM
    refine zuc (hS _ _) hl0 ?_
    rw [hP]
    exact zgd (by simp [zdy, dmT, zbL]) hl (ziJ _ _) hK
  have no : zjr c = 100 → zl Tryz.prog zN [.box id 0, .d (.int .i64 100)] (σ.set id (zgi E) ++ [zd.box [AV.d (D.int .i64 c.seq), AV.d (D.int .i64 c.dig), AV.d (D.slice (zab c.signs))]]) fun _ s => fl 2 (.box σ.length 0) s fun g s => cA Tryz.prog zaS [.box id 0, g] s fun _ s => AW.Ends σ.length K (some []) s := fun h => by
    refine c_says (hS _ _) ?_
    rw [hP]
    refine zay hB ?_
    exact tail 100 h.symm
  have yes : zjr c = 0 → zl Tryz.prog zaS [.box id 0, .d (.slice (zab c.signs))] (σ.set id (zgi E) ++ [zd.box [AV.d (D.int .i64 c.seq), AV.d (D.int .i64 c.dig), AV.d (D.slice (zab c.signs))]]) fun _ s => AW.Ends σ.length K (some []) s := fun h => by
    have := tail 0 h.symm
    rw [thn_0] at this
    exact this
  cases h1 : (c.seq == 0)
  · cases h2 : (c.dig == 0)
    · refine gq43 (zq hB (zq h1 h2)) ?_
      exact yes (by simp at h1 h2; simp [zjr, h1, h2])
    · refine gq44 (zq hB (zq h1 h2)) ?_
      exact no (by simp at h1 h2; simp [zjr, h1, h2])
  · cases h2 : (c.dig == 0)
    · refine gq44 (zq hB (zq h1 h2)) ?_
      exact no (by simp at h1 h2; simp [zjr, h1, h2])
    · cases h3 : decide ((c.signs.length : Int) > 0)
      · refine gq43 (zq hB (zq h1 (zq h2 (zq hlen h3)))) ?_
        exact yes (by simp at h1 h2 h3; simp [zjr, h1, h2, h3])
      · refine gq43 (zq hB (zq h1 (zq h2 (zq hlen h3)))) ?_
        exact no (by simp only [beq_iff_eq, decide_eq_true_eq] at h1 h2 h3; rw [zjr, if_pos (.inr ⟨h1, by omega⟩)])
end Go.Proofs.YtpgahkdjkanblaaGreat
