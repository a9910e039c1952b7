/- Contracts: what is wrong with requests, signatures and batches, on both sides. -/
import Derived.Test.YtpgahkdjkanblaaGreatCodec1
import Derived.Test.YtpgahkdjkanblaaGreatRq1
import Derived.Test.YtpgahkdjkanblaaGreatSpTab
set_option linter.all false
set_option maxRecDepth 100000
set_option linter.unusedSimpArgs false
set_option linter.unusedVariables false
namespace Go.Proofs.YtpgahkdjkanblaaGreat
open Go.AW

theorem zao {P Q : Prop} (h : Q) (e : Hd Q → P := by intro h; (repeat' first | simp -dsimp only [↓zey, ↓zay, ↓zbs, ↓zez, ↓zeu, ↓zes, ↓zev, ↓zet, ↓zbx, ↓zbt, ↓zby, ↓zbu, ↓zew, ↓zbr, ↓zbz, ↓zbv, ↓zbA, ↓zbw, ↓zer, ↓zex, ↓zbp, ↓zbB, ↓zep, ↓zeo, ↓zeq, iN, bT, bF, eN, ↓zcv, ↓unC, ↓zU, ↓zI, ↓zJ, ↓zM, ↓zX, ↓zal, ↓zcX, ↓zai, ↓zaJ, ↓zW, ↓zg, ↓zn, ↓zbP, ↓zb, ↓zaf, ↓zD, ↓zaI, ↓zaQ, ↓zd, ↓zF, ↓zj, ↓zG, ↓zam, ↓zdc, ↓zdj, ↓zak, ↓zau, ↓zaL, ↓zaY, ↓zbh, ↓zo, ↓zaj, ↓zK, ↓zr, ↓zV, zdk, zbn, zbk, unA, zdu, bnd, zdG, zae, zO, zdW, dm, dm1, zR, zaF, zea, zdZ, zw, Q0, Q1, Q2, Q3, Q4, Q5, zY, zC, zt, zN, zE, Q6, Q7, Q8, Q9, Q10, Q11, Q12, Q13, Q14, Nat.reduceAdd, Q15, Int.reduceToNat, Q16, Q17, Q18, Q19, Q20, reduceIte, Q21, Q22, zA, rep, zZ, zeB, toD, zap, Q23, Q24, Q25, Q26, Q27, Q28, Nat.reduceLeDiff, Q29, Nat.reduceSub, Q30, Q31, Q32, sc, Q33, Q34, Q35, Q36, Q37, Q26, Q38, Q39, zpZ, zpW, zpT, zqa, zgd, zpX, zpU, zpY, zpV, zgc, zge, zqb, zqc, Bool.not_true, Bool.not_false, List.length_map] | with_reducible refine zqd ?_ | fail); exact h.go) : P := e ⟨h⟩
theorem c_rqCheck {σ : List zf} {x : zu} (hx : okO x.op) {K : KT} (hK : K (.d (.int .i64 (zad x))) σ) : zm Tryz.prog zfK [reqA x] σ K := by
  refine zc zmq.is rfl fun hl _ => zmq.goes ?_
  have fin : ∀ z, zad x = z → K (.d (.int .i64 z)) σ := fun z h => h ▸ hK
  clear hK
  simp only [zmK, iN, bT, bF, eN, reqA]
  (repeat' (first | (refine gq3 ?_; try with_reducible exact True.intro) | (refine zS (fun h => ?_) (fun h => ?_) <;> (try rw [h])) | ((with_reducible refine And.intro ?_ ?_); focus (first | omega | rfl | decide))))
  all_goals first
    | (refine zq hl ?_
       (try simp only [decide_eq_true_eq, decide_eq_false_iff_not, beq_iff_eq, beq_eq_false_iff_ne, bne_iff_ne, ne_eq, Bool.not_eq_true', Bool.not_eq_false', bne_eq_false_iff_eq] at *)
       exact fin _ (by rw [zad, if_pos (by omega)]))
    | skip
  refine c_Check (o := x.op) hx.1 hx.2.1 hx.2.2.1 ?_
  refine zao ?_
  refine zq hl ?_
  (try simp only [decide_eq_true_eq, decide_eq_false_iff_not, beq_iff_eq, beq_eq_false_iff_ne, bne_iff_ne, ne_eq, Bool.not_eq_true', Bool.not_eq_false', bne_eq_false_iff_eq] at *)
  exact fin _ (by rw [zad, if_neg (by omega)])
theorem c_rKey {σ : List zf} {c : Int} {K : KT} (hK : K (.d (.int .i64 (if c < 0 ∨ c ≥ 8 then -1 else 13 + c))) σ) : zm Tryz.prog zmh [.d (.int .i64 c)] σ K := by
  refine zc e_r08_Key.is rfl fun hl _ => e_r08_Key.goes ?_
  have fin : ∀ z, (if c < 0 ∨ c ≥ 8 then -1 else 13 + c) = z → K (.d (.int .i64 z)) σ := fun z h => h ▸ hK
  clear hK
  simp only [S_r08_Key, iN, bT, bF, eN]
  (repeat' (first | (refine gq3 ?_; try with_reducible exact True.intro) | (refine zS (fun h => ?_) (fun h => ?_) <;> (try rw [h])) | ((with_reducible refine And.intro ?_ ?_); focus (first | omega | rfl | decide))))
  all_goals
    refine zq hl ?_
    (try simp only [decide_eq_true_eq, decide_eq_false_iff_not, beq_iff_eq, beq_eq_false_iff_ne, bne_iff_ne, ne_eq, Bool.not_eq_true', Bool.not_eq_false', bne_eq_false_iff_eq] at *)
  · exact fin _ (by rw [if_pos (by omega)])
  · exact fin _ (by rw [if_pos (by omega)])
  · exact fin _ (by rw [if_neg (by omega), zat (by omega) (by omega)])
theorem zH {A P Q : Prop} (a : A) (h : Q) (e : A → Hd Q → P := by intro a h; (repeat' first | simp -dsimp only [↓zey, ↓zay, ↓zbs, ↓zez, ↓zeu, ↓zes, ↓zev, ↓zet, ↓zbx, ↓zbt, ↓zby, ↓zbu, ↓zew, ↓zbr, ↓zbz, ↓zbv, ↓zbA, ↓zbw, ↓zer, ↓zex, ↓zbp, ↓zbB, ↓zep, ↓zeo, ↓zeq, iN, bT, bF, eN, ↓zcv, ↓unC, ↓zU, ↓zI, ↓zJ, ↓zM, ↓zX, ↓zal, ↓zcX, ↓zai, ↓zaJ, ↓zW, ↓zg, ↓zn, ↓zbP, ↓zb, ↓zaf, ↓zD, ↓zaI, ↓zaQ, ↓zd, ↓zF, ↓zj, ↓zG, ↓zam, ↓zdc, ↓zdj, ↓zak, ↓zau, ↓zaL, ↓zaY, ↓zbh, ↓zo, ↓zaj, ↓zK, ↓zr, ↓zV, zdk, zbn, zbk, unA, zdu, bnd, zdG, zae, zO, zdW, dm, dm1, zR, zaF, zea, zdZ, zw, Q0, Q1, Q2, Q3, Q4, Q5, zY, zC, zt, zN, zE, Q6, Q7, Q8, Q9, Q10, Q11, Q12, Q13, Q14, Nat.reduceAdd, Q15, Int.reduceToNat, Q16, Q17, Q18, Q19, Q20, reduceIte, Q21, Q22, zA, rep, zZ, zeB, toD, zap, Q23, Q24, Q25, Q26, Q27, Q28, Nat.reduceLeDiff, Q29, Nat.reduceSub, Q30, Q31, Q32, sc, Q33, Q34, Q35, Q36, Q37, Q26, Q38, Q39, zpZ, zpW, zpT, zqa, zgd, zpX, zpU, zpY, zpV, zgc, zge, zqb, zqc, Bool.not_true, Bool.not_false, List.length_map, a] | with_reducible refine zqd ?_ | fail); exact h.go) : P := e a ⟨h⟩
theorem zvd {σ : List zf} {x : zu} (hx : okO x.op) {K : KT} (hK : K (.d (.int .i64 (zad x))) σ) : zm Tryz.prog zkN [reqA x] σ K := by
  refine zc zsP.is rfl fun hl _ => zsP.goes ?_
  have fin : ∀ z, zad x = z → K (.d (.int .i64 z)) σ := fun z h => h ▸ hK
  clear hK
  simp only [ztF, iN, bT, bF, eN, reqA]
  refine zao ?_
  refine c_rKey ?_
  by_cases hc : x.client < 0 ∨ x.client ≥ 8
  · rw [if_pos hc]
    refine zH (show decide ((-1 : Int) < 0) = true from rfl) ?_
    refine zq hl ?_
    exact fin _ (by rw [zad, if_pos (by omega)])
  · rw [if_neg hc]
    have h0 : decide (13 + x.client < 0) = false := by simp; omega
    (refine gq4 h0 ?_; try with_reducible exact True.intro)
    (repeat' (first | (refine gq3 ?_; try with_reducible exact True.intro) | (refine zS (fun h => ?_) (fun h => ?_) <;> (try rw [h])) | ((with_reducible refine And.intro ?_ ?_); focus (first | omega | rfl | decide))))
    all_goals first
      | (refine zq hl ?_
         (try simp only [decide_eq_true_eq, decide_eq_false_iff_not, beq_iff_eq, beq_eq_false_iff_ne, bne_iff_ne, ne_eq, Bool.not_eq_true', Bool.not_eq_false', bne_eq_false_iff_eq] at *)
         exact fin _ (by rw [zad, if_pos (by omega)]))
      | skip
    refine c_rCheck (o := x.op) hx.1 hx.2.1 hx.2.2.1 ?_
    refine zao ?_
    refine zq hl ?_
    (try simp only [decide_eq_true_eq, decide_eq_false_iff_not, beq_iff_eq, beq_eq_false_iff_ne, bne_iff_ne, ne_eq, Bool.not_eq_true', Bool.not_eq_false', bne_eq_false_iff_eq] at *)
    exact fin _ (by rw [zad, if_neg (by omega)])
theorem zeO {σ : List zf} {k d : Int} {K : KT} (hK : K (.d (.int .i64 (zL k d))) σ) : zm Tryz.prog zbF [.agg [.d (.int .i64 k), .d (.int .i64 d)]] σ K := by
  refine zc ziA.is rfl fun hl _ => ziA.goes ?_
  have fin : ∀ z, zL k d = z → K (.d (.int .i64 z)) σ := fun z h => h ▸ hK
  clear hK
  simp only [ziO, iN, bT, bF, eN]
  (repeat' (first | (refine gq3 ?_; try with_reducible exact True.intro) | (refine zS (fun h => ?_) (fun h => ?_) <;> (try rw [h])) | ((with_reducible refine And.intro ?_ ?_); focus (first | omega | rfl | decide))))
  all_goals
    refine zq hl ?_
    (try simp only [decide_eq_true_eq, decide_eq_false_iff_not, beq_iff_eq, beq_eq_false_iff_ne, bne_iff_ne, ne_eq, Bool.not_eq_true', Bool.not_eq_false', bne_eq_false_iff_eq] at *)
    first | exact fin _ (by rw [zL, if_pos (by omega)]) | exact fin _ (by rw [zL, if_neg (by omega)])
theorem zef {σ : List zf} {k d : Int} {K : KT} (hK : K (.d (.int .i64 (zL k d))) σ) : zm Tryz.prog zcr [.agg [.d (.int .i64 k), .d (.int .i64 d)]] σ K := by
  refine zc zmy.is rfl fun hl _ => zmy.goes ?_
  have fin : ∀ z, zL k d = z → K (.d (.int .i64 z)) σ := fun z h => h ▸ hK
  clear hK
  simp only [zmS, iN, bT, bF, eN]
  (repeat' (first | (refine gq3 ?_; try with_reducible exact True.intro) | (refine zS (fun h => ?_) (fun h => ?_) <;> (try rw [h])) | ((with_reducible refine And.intro ?_ ?_); focus (first | omega | rfl | decide))))
  all_goals
    refine zq hl ?_
    (try simp only [decide_eq_true_eq, decide_eq_false_iff_not, beq_iff_eq, beq_eq_false_iff_ne, bne_iff_ne, ne_eq, Bool.not_eq_true', Bool.not_eq_false', bne_eq_false_iff_eq] at *)
    first | exact fin _ (by rw [zL, if_pos (by omega)]) | exact fin _ (by rw [zL, if_neg (by omega)])
end Go.Proofs.YtpgahkdjkanblaaGreat

/- Contracts: what is asked of a proof, the program's. -/
set_option maxRecDepth 100000
set_option linter.unusedSimpArgs false
set_option linter.unusedVariables false
namespace Go.Proofs.YtpgahkdjkanblaaGreat
open Go.AW

abbrev zhb (e : Int) : zf := .box [.d (.int .i64 e)]
theorem zig (n : Nat) (e : Int) : ztT n (zhb e) := by
  intro c hc
  simp only [List.mem_cons, List.not_mem_nil, or_false] at hc
  subst hc; exact .d _
theorem c_says {σ : List zf} {id : Nat} {e x : Int} (hσ : σ[id]? = some (zhb e)) {K : KT} (hK : K (.tup []) (σ.set id (zhb (zlW e x)))) : zm Tryz.prog zT [.box id 0, .d (.int .i64 x)] σ K := by
  refine zc zhO.is rfl fun hl _ => zhO.goes ?_
  simp only [zhW, iN, bT, bF, eN]
  cases h : (e == 0)
  · rw [zlW, if_pos (by simpa using h), zeI hσ] at hK
    refine zH (zi hσ h) ?_
    refine zq hl ?_
    exact hK
  · rw [zlW, if_neg (by simpa using h)] at hK
    refine zH (zi hσ h) ?_
    exact zft (by simp [zdF, dmT, zcV]) hl (zig _ _) hK
theorem thn_0 (e : Int) : zlW e 0 = e := by
  unfold zlW; split
  · rfl
  · rename_i h; simp at h; exact h.symm
theorem zwv {σ : List zf} {id : Nat} {e n lo hi : Int} (hσ : σ[id]? = some (zhb e)) {K : KT} (hK : K (.tup []) (σ.set id (zhb (zlW e (inE n lo hi))))) :
    zm Tryz.prog zaz [.box id 0, .d (.int .i64 n), .d (.int .i64 lo), .d (.int .i64 hi)] σ K := by
  refine zc zjq.is rfl fun hl _ => zjq.goes ?_
  simp only [zjF, iN, bT, bF, eN]
  have bad : (n < lo ∨ n > hi) → zm Tryz.prog zT [.box id 0, .d (.int .i64 100)] σ fun _ s => AW.Ends σ.length K (some []) s := fun h => by
    rw [inE, if_pos h] at hK
    refine c_says hσ ?_
    exact zft (by simp [zdF, dmT, zcV]) hl (zig _ _) hK
  cases h1 : decide (n < lo)
  · cases h2 : decide (n > hi)
    · rw [inE, if_neg (by simp at h1 h2; omega), thn_0, zeI hσ] at hK
      refine zH (zi h1 h2) ?_
      refine zq hl ?_
      exact hK
    · refine zH (zi h1 h2) ?_
      exact bad (.inr (by simpa using h2))
  · refine zH h1 ?_
    exact bad (.inl (by simpa using h1))
theorem zwu {σ : List zf} {id : Nat} {e n : Int} (hσ : σ[id]? = some (zhb e)) {K : KT} (hK : K (.tup []) (σ.set id (zhb (zlW e (zjX n))))) :
    zm Tryz.prog zaA [.box id 0, .d (.int .i64 n)] σ K := by
  refine zc ziH.is rfl fun hl _ => ziH.goes ?_
  simp only [ziV, iN, bT, bF, eN]
  refine zao ?_
  refine zwv hσ ?_
  exact zft (by simp [zdF, dmT, zcV]) hl (zig _ _) hK
theorem c_askPos {σ : List zf} {id : Nat} {e n : Int} (hσ : σ[id]? = some (zhb e)) {K : KT} (hK : K (.tup []) (σ.set id (zhb (zlW e (zrC n))))) :
    zm Tryz.prog zbf [.box id 0, .d (.int .i64 n)] σ K := by
  refine zc ziG.is rfl fun hl _ => ziG.goes ?_
  simp only [ziU, iN, bT, bF, eN]
  refine zao ?_
  refine zwv hσ ?_
  exact zft (by simp [zdF, dmT, zcV]) hl (zig _ _) hK
theorem c_askMany {σ : List zf} {id : Nat} {e n hi : Int} (hσ : σ[id]? = some (zhb e)) {K : KT} (hK : K (.tup []) (σ.set id (zhb (zlW e (inE n 0 hi))))) :
    zm Tryz.prog zbH [.box id 0, .d (.int .i64 n), .d (.int .i64 hi)] σ K := by
  refine zc zhP.is rfl fun hl _ => zhP.goes ?_
  simp only [zhX, iN, bT, bF, eN]
  refine zao ?_
  refine zwv hσ ?_
  exact zft (by simp [zdF, dmT, zcV]) hl (zig _ _) hK
theorem fst_snoc (e : Int) (l : List Int) (x : Int) : zlW (zbj (e :: l)) x = zbj (e :: (l ++ [x])) := by
  rw [show e :: (l ++ [x]) = (e :: l) ++ [x] from rfl, zif]
  unfold zlW
  split
  · rfl
  · simp [zbj]
theorem zoU {α β : Type} {f : α → β} {l : List α} {k : Nat} {x : α} (h : l[k]? = some x) : (l.take (k + 1)).map f = (l.take k).map f ++ [f x] := by
  rw [List.take_add_one, h]; simp
theorem wkc (k : Nat) (h : k ≤ 1073741824) : IntKind.i64.wrap ((k : Int) + 1) = ((k + 1 : Nat) : Int) := by rw [zat (by omega) (by omega)]; rfl
theorem fst1 (e x : Int) : zbj [e, x] = zlW e x := by
  unfold zlW
  simp only [zbj]
  split
  · rfl
  · split
    · rfl
    · rename_i h; simp at h; exact h.symm
theorem bft : ((false : Bool) == true) = false := rfl
theorem btf : ((true : Bool) == false) = false := rfl
theorem zjk {A P Q : Prop} (a : A) (h : Q) (e : A → Hd Q → P := by intro a h; (repeat' first | simp -dsimp only [↓zey, ↓zay, ↓zbs, ↓zez, ↓zeu, ↓zes, ↓zev, ↓zet, ↓zbx, ↓zbt, ↓zby, ↓zbu, ↓zew, ↓zbr, ↓zbz, ↓zbv, ↓zbA, ↓zbw, ↓zer, ↓zex, ↓zbp, ↓zbB, ↓zep, ↓zeo, ↓zeq, iN, bT, bF, eN, ↓zcv, ↓unC, ↓zU, ↓zI, ↓zJ, ↓zM, ↓zX, ↓zal, ↓zcX, ↓zai, ↓zaJ, ↓zW, ↓zg, ↓zn, ↓zbP, ↓zb, ↓zaf, ↓zD, ↓zaI, ↓zaQ, ↓zd, ↓zF, ↓zj, ↓zG, ↓zam, ↓zdc, ↓zdj, ↓zak, ↓zau, ↓zaL, ↓zaY, ↓zbh, ↓zo, ↓zaj, ↓zK, ↓zr, ↓zV, zdk, zbn, zbk, unA, zdu, bnd, zdG, zae, zO, zdW, dm, dm1, zR, zaF, zea, zdZ, zw, Q0, Q1, Q2, Q3, Q4, Q5, zY, zC, zt, zN, zE, Q6, Q7, Q8, Q9, Q10, Q11, Q12, Q13, Q14, Nat.reduceAdd, Q15, Int.reduceToNat, Q16, Q17, Q18, Q19, Q20, reduceIte, Q21, Q22, zA, rep, zZ, zeB, toD, zap, Q23, Q24, Q25, Q26, Q27, Q28, Nat.reduceLeDiff, Q29, Nat.reduceSub, Q30, Q31, Q32, sc, Q33, Q34, Q35, Q36, Q37, Q26, Q38, Q39, zpZ, zpW, zpT, zqa, zgd, zpX, zpU, zpY, zpV, zgc, zge, zqb, zqc, Bool.not_true, Bool.not_false, List.length_map, zbm, zhJ, hdrD, zcU, opA, zeV, zeS, zfG, zaM, a] | with_reducible refine zqd ?_ | fail); exact h.go) : P := e a ⟨h⟩
theorem zvi {σ : List zf} {id : Nat} {e : Int} {l : List zP} (hσ : σ[id]? = some (zhb e)) (hl0 : l.length ≤ 1073741824) {K : KT} (hK : K (.tup []) (σ.set id (zhb (zlW e (zbj (zbX l)))))) :
    zm Tryz.prog zaO [.box id 0, .d (.slice (zas l))] σ K := by
  refine zc zhn.is rfl fun hl _ => zhn.goes ?_
  have hlen : (zas l).length = l.length := List.length_map ..
  have hid := zdB hσ
  rw [thn_fst, zbX] at hK
  simp only [zht, iN, bT, bF, eN]
  refine zH hlen ?_
  refine c_askMany hσ ?_
  refine zH hlen ?_
  refine zl l.length (fun k vs s => vs = [.d (.int .i64 k)] ∧ ∃ T, s = σ.set id (zhb (zbj (e :: (inE l.length 0 13 :: (l.take k).map fun s => zL s.key s.dig)))) ++ T) ⟨rfl, [], by rw [List.take_zero, List.map_nil, fst1, List.append_nil]⟩ ?_
  rintro k vs s hk ⟨rfl, T, rfl⟩
  by_cases hlt : k < l.length
  · have hd : decide ((k : Int) < (l.length : Int)) = true := by simp; omega
    have hx : l[k]? = some l[k] := by simp [hlt]
    have hgx := zQ (f := zeS) hx
    obtain ⟨x, hxe⟩ : ∃ x, l[k] = x := ⟨_, rfl⟩
    rw [hxe] at hx hgx
    have hmn := zoU (f := fun s : zP => zL s.key s.dig) hx
    have fs := fst_snoc e (inE l.length 0 13 :: (l.take k).map fun s => zL s.key s.dig) (zL x.key x.dig)
    simp only [List.cons_append] at fs
    rw [← hmn] at fs
    obtain ⟨E, hE⟩ : ∃ E, zbj (e :: (inE l.length 0 13 :: (l.take k).map fun s => zL s.key s.dig)) = E := ⟨_, rfl⟩
    rw [hE] at fs ⊢
    have hS : ∀ τ, (σ.set id (zhb E) ++ τ)[id]? = some (zhb E) := fun τ => zx (zdh hσ)
    refine zjk (zi hd (zi hgx hlen)) ?_
    refine zeO ?_
    refine zao ?_
    refine c_says (e := E) (hS _) ?_
    rw [zfi (zdh hσ), List.set_set]
    refine zH (wkc k (by omega)) ?_
    exact zaG.next hlt ⟨rfl, _, by rw [fs]⟩
  · have hd : decide ((k : Int) < (l.length : Int)) = false := by simp; omega
    rw [List.take_of_length_le (by omega)]
    refine zH hd ?_
    exact zfz (by simp [zdF, dmT, zcV]) hl (zig _ _) hK
theorem gq47 {A P Q : Prop} (a : A) (h : Q) (e : A → Hd Q → P := by intro a h; (repeat' first | simp -dsimp only [↓zey, ↓zay, ↓zbs, ↓zez, ↓zeu, ↓zes, ↓zev, ↓zet, ↓zbx, ↓zbt, ↓zby, ↓zbu, ↓zew, ↓zbr, ↓zbz, ↓zbv, ↓zbA, ↓zbw, ↓zer, ↓zex, ↓zbp, ↓zbB, ↓zep, ↓zeo, ↓zeq, iN, bT, bF, eN, ↓zcv, ↓unC, ↓zU, ↓zI, ↓zJ, ↓zM, ↓zX, ↓zal, ↓zcX, ↓zai, ↓zaJ, ↓zW, ↓zg, ↓zn, ↓zbP, ↓zb, ↓zaf, ↓zD, ↓zaI, ↓zaQ, ↓zd, ↓zF, ↓zj, ↓zG, ↓zam, ↓zdc, ↓zdj, ↓zak, ↓zau, ↓zaL, ↓zaY, ↓zbh, ↓zo, ↓zaj, ↓zK, ↓zr, ↓zV, zdk, zbn, zbk, unA, zdu, bnd, zdG, zae, zO, zdW, dm, dm1, zR, zaF, zea, zdZ, zw, Q0, Q1, Q2, Q3, Q4, Q5, zY, zC, zt, zN, zE, Q6, Q7, Q8, Q9, Q10, Q11, Q12, Q13, Q14, Nat.reduceAdd, Q15, Int.reduceToNat, Q16, Q17, Q18, Q19, Q20, reduceIte, Q21, Q22, zA, rep, zZ, zeB, toD, zap, Q23, Q24, Q25, Q26, Q27, Q28, Nat.reduceLeDiff, Q29, Nat.reduceSub, Q30, Q31, Q32, sc, Q33, Q34, Q35, Q36, Q37, Q26, Q38, Q39, zpZ, zpW, zpT, zqa, zgd, zpX, zpU, zpY, zpV, zgc, zge, zqb, zqc, Bool.not_true, Bool.not_false, List.length_map, beq_self_eq_true, bft, btf, a] | with_reducible refine zqd ?_ | fail); exact h.go) : P := e a ⟨h⟩
theorem gq48 {A P Q : Prop} (a : A) (h : Q) (e : A → Hd Q → P := by intro a h; (repeat' first | simp -dsimp only [↓zey, ↓zay, ↓zbs, ↓zez, ↓zeu, ↓zes, ↓zev, ↓zet, ↓zbx, ↓zbt, ↓zby, ↓zbu, ↓zew, ↓zbr, ↓zbz, ↓zbv, ↓zbA, ↓zbw, ↓zer, ↓zex, ↓zbp, ↓zbB, ↓zep, ↓zeo, ↓zeq, iN, bT, bF, eN, ↓zcv, ↓unC, ↓zU, ↓zI, ↓zJ, ↓zM, ↓zX, ↓zal, ↓zcX, ↓zai, ↓zaJ, ↓zW, ↓zg, ↓zn, ↓zbP, ↓zb, ↓zaf, ↓zD, ↓zaI, ↓zaQ, ↓zd, ↓zF, ↓zj, ↓zG, ↓zam, ↓zdc, ↓zdj, ↓zak, ↓zau, ↓zaL, ↓zaY, ↓zbh, ↓zo, ↓zaj, ↓zK, ↓zr, ↓zV, zdk, zbn, zbk, unA, zdu, bnd, zdG, zae, zO, zdW, dm, dm1, zR, zaF, zea, zdZ, zw, Q0, Q1, Q2, Q3, Q4, Q5, zY, zC, zt, zN, zE, Q6, Q7, Q8, Q9, Q10, Q11, Q12, Q13, Q14, Nat.reduceAdd, Q15, Int.reduceToNat, Q16, Q17, Q18, Q19, Q20, reduceIte, Q21, Q22, zA, rep, zZ, zeB, toD, zap, Q23, Q24, Q25, Q26, Q27, Q28, Nat.reduceLeDiff, Q29, Nat.reduceSub, Q30, Q31, Q32, sc, Q33, Q34, Q35, Q36, Q37, Q26, Q38, Q39, zpZ, zpW, zpT, zqa, zgd, zpX, zpU, zpY, zpV, zgc, zge, zqb, zqc, Bool.not_true, Bool.not_false, List.length_map, bft, btf, a] | with_reducible refine zqd ?_ | fail); exact h.go) : P := e a ⟨h⟩
theorem c_askCert {σ : List zf} {id : Nat} {e : Int} {c : zek} (hσ : σ[id]? = some (zhb e)) (hl0 : c.signs.length ≤ 1073741824) {K : KT} (hK : K (.tup []) (σ.set id (zhb (zlW e (zbj (zck c)))))) :
    zm Tryz.prog zcb [.box id 0, zgQ c] σ K := by
  refine zc zhQ.is rfl fun hl _ => zhQ.goes ?_
  have hlen : (zas c.signs).length = c.signs.length := List.length_map ..
  simp only [zhY, iN, bT, bF, eN, zgQ]
  have hB : ∀ X, (σ.set id X ++ [zf.box [AV.d (D.int .i64 c.seq), AV.d (D.int .i64 c.dig), AV.d (D.slice (zas c.signs))]])[σ.length]? = some (zf.box [AV.d (D.int .i64 c.seq), AV.d (D.int .i64 c.dig), AV.d (D.slice (zas c.signs))]) := fun X => by
    rw [List.getElem?_append_right (by simp)]; simp
  have hS : ∀ E τ, (σ.set id (zhb E) ++ τ)[id]? = some (zhb E) := fun E τ => zx (zdh hσ)
  have hP : ∀ E Y τ, (σ.set id (zhb E) ++ τ).set id Y = σ.set id Y ++ τ := fun E Y τ => by rw [zfi (zdh hσ), List.set_set]
  have e4 : zlW e (zbj (zck c)) = zlW (zlW (zlW (zlW e (zjX c.seq)) (zjX c.dig)) (zdS c)) (zbj (zbX c.signs)) := by
    simp only [zck, zbj, zlW]
    by_cases h0 : e = 0
    · by_cases h1 : zjX c.seq = 0
      · by_cases h2 : zjX c.dig = 0
        · by_cases h3 : zdS c = 0
          · simp [h0, h1, h2, h3]
          · simp [h0, h1, h2, h3]
        · simp [h0, h1, h2]
      · simp [h0, h1]
    · simp [h0]
  rw [e4] at hK
  refine zao ?_
  refine zwu (zx hσ) ?_
  rw [zfi hσ]
  refine zH hB ?_
  refine zwu (hS _ _) ?_
  rw [hP]
  obtain ⟨E, hE⟩ : ∃ E, zlW (zlW e (zjX c.seq)) (zjX c.dig) = E := ⟨_, rfl⟩
  rw [hE] at hK ⊢
  have tail : ∀ M, M = zdS c → zm Tryz.prog zaO [.box id 0, .d (.slice (zas c.signs))] (σ.set id (zhb (zlW E M)) ++ [zf.box [AV.d (D.int .i64 c.seq), AV.d (D.int .i64 c.dig), AV.d (D.slice (zas c.signs))]]) fun _ s => AW.Ends σ.length K (some []) s := fun M hM => by
    subst hM
    refine zvi (hS _ _) hl0 ?_
    rw [hP]
    exact zfz (by simp [zdF, dmT, zcV]) hl (zig _ _) hK
  have no : zdS c = 100 → zm Tryz.prog zT [.box id 0, .d (.int .i64 100)] (σ.set id (zhb E) ++ [zf.box [AV.d (D.int .i64 c.seq), AV.d (D.int .i64 c.dig), AV.d (D.slice (zas c.signs))]]) fun _ s => fl 2 (.box σ.length 0) s fun g s => cA Tryz.prog zaO [.box id 0, g] s fun _ s => AW.Ends σ.length K (some []) s := fun h => by
    refine c_says (hS _ _) ?_
    rw [hP]
    refine zH hB ?_
    exact tail 100 h.symm
  have yes : zdS c = 0 → zm Tryz.prog zaO [.box id 0, .d (.slice (zas c.signs))] (σ.set id (zhb E) ++ [zf.box [AV.d (D.int .i64 c.seq), AV.d (D.int .i64 c.dig), AV.d (D.slice (zas c.signs))]]) fun _ s => AW.Ends σ.length K (some []) s := fun h => by
    have := tail 0 h.symm
    rw [thn_0] at this
    exact this
  cases h1 : (c.seq == 0)
  · cases h2 : (c.dig == 0)
    · refine gq47 (zi hB (zi h1 h2)) ?_
      exact yes (by simp at h1 h2; simp [zdS, h1, h2])
    · refine gq48 (zi hB (zi h1 h2)) ?_
      exact no (by simp at h1 h2; simp [zdS, h1, h2])
  · cases h2 : (c.dig == 0)
    · refine gq48 (zi hB (zi h1 h2)) ?_
      exact no (by simp at h1 h2; simp [zdS, h1, h2])
    · cases h3 : decide ((c.signs.length : Int) > 0)
      · refine gq47 (zi hB (zi h1 (zi h2 (zi hlen h3)))) ?_
        exact yes (by simp at h1 h2 h3; simp [zdS, h1, h2, h3])
      · refine gq47 (zi hB (zi h1 (zi h2 (zi hlen h3)))) ?_
        exact no (by simp only [beq_iff_eq, decide_eq_true_eq] at h1 h2 h3; rw [zdS, if_pos (.inr ⟨h1, by omega⟩)])
end Go.Proofs.YtpgahkdjkanblaaGreat
