/- What is wrong with requests, signatures and batches, as the document says. No program in sight. -/
import Derived.Test.YtjjchfbckfopkaaGreatSpNum
import Derived.Test.YtjjchfbckfopkaaGreatSpUtf
import Derived.Test.YtjjchfbckfopkaaGreatOp2
import Derived.Test.YtjjchfbckfopkaaGreatRq1
set_option linter.all false
set_option linter.unusedSimpArgs false
namespace Go.AW

def zD (x : zf) : Int := if x.client < 0 ∨ x.client ≥ 8 ∨ x.time < 1 ∨ x.time > 9007199254740992 then 80 else zbK zhw x.op
def zal (k d : Int) : Int := if k < 0 ∨ k ≥ 21 ∨ d < 1 ∨ d > 9007199254740992 then 81 else 0
def zoN (s : zf) : Int := if zD s ≠ 0 then zD s else zal s.key s.dig
def zhx : List zf → Int
  | [] => 0
  | s :: r => if zoN s ≠ 0 then zoN s else zhx r
def ndup (a b : zf) : Prop := ¬ (a.client = b.client ∧ a.time = b.time)
instance : DecidableRel ndup := fun a b => inferInstanceAs (Decidable (¬ _))
def zx (l : List zf) : Int :=
  if l.length > 4 then 3 else if zhx l ≠ 0 then zhx l else if l.Pairwise ndup then 0 else 5

theorem ziw {l : List zf} : ∀ {k : Nat} {x : zf}, l[k]? = some x → zhx (l.take k) = 0 → zoN x ≠ 0 → zhx l = zoN x := by
  induction l with
  | nil => intro k x h; simp at h
  | cons s r ih =>
    intro k x h h0 hx
    cases k with
    | zero => simp at h; subst h; simp [zhx, hx]
    | succ k =>
      simp only [List.take_succ_cons, zhx] at h0 ⊢
      simp at h
      split at h0
      · rename_i hs; exact absurd h0 hs
      · rename_i hs; rw [if_neg hs]; exact ih h h0 hx
theorem zoM {l : List zf} {k : Nat} {x : zf} (h : l[k]? = some x) (h0 : zhx (l.take k) = 0) (hx : zoN x = 0) : zhx (l.take (k + 1)) = 0 := by
  have key : ∀ (a : List zf), zhx a = 0 → zhx (a ++ [x]) = 0 := by
    intro a
    induction a with
    | nil => intro _; simp [zhx, hx]
    | cons s r ih =>
      intro h
      simp only [List.cons_append, zhx] at h ⊢
      split at h
      · rename_i hs; exact absurd h hs
      · rename_i hs; rw [if_neg hs]; exact ih h
  rw [List.take_add_one, h]
  exact key _ h0
theorem zox {l : List zf} {k : Nat} {x : zf} (h : l[k]? = some x) (h0 : (l.take k).Pairwise ndup) (hx : ∀ y ∈ l.take k, ¬ (x.client = y.client ∧ x.time = y.time)) : (l.take (k + 1)).Pairwise ndup := by
  rw [List.take_add_one, h]
  refine List.pairwise_append.2 ⟨h0, by simp, fun a ha b hb => ?_⟩
  simp at hb; subst hb
  exact fun e => hx a ha ⟨e.1.symm, e.2.symm⟩
theorem pairs_not {l : List zf} {k j : Nat} {x y : zf} (h : l[k]? = some x) (hy : l[j]? = some y) (hj : j < k) (hxy : x.client = y.client ∧ x.time = y.time) : ¬ l.Pairwise ndup := by
  intro hp
  rw [List.pairwise_iff_getElem] at hp
  obtain ⟨hk, rfl⟩ := List.getElem?_eq_some_iff.1 h
  obtain ⟨hj', rfl⟩ := List.getElem?_eq_some_iff.1 hy
  exact hp j k hj' hk hj ⟨hxy.1.symm, hxy.2.symm⟩

def okO (o : TOp) : Prop := o.topic.length ≤ 1073741824 ∧ o.group.length ≤ 1073741824 ∧ o.recs.length ≤ 1073741824 ∧ ∀ r ∈ o.recs, r.length ≤ 1073741824
def okB (b : List zf) : Prop := b.length ≤ 1073741824 ∧ ∀ x ∈ b, okO x.op
end Go.AW

/- Contracts: what is wrong with requests, signatures and batches, on both sides. -/
set_option maxRecDepth 100000
set_option linter.unusedSimpArgs false
set_option linter.unusedVariables false
namespace Go.Proofs.YtjjchfbckfopkaaGreat
open Go.AW

theorem zod {P Q : Prop} (h : Q) (e : Hd Q → P := by intro h; (repeat' first | simp -dsimp only [↓zek, ↓zar, ↓zbg, ↓zel, ↓zef, ↓zed, ↓zeg, ↓zee, ↓zbl, ↓zbh, ↓zbm, ↓zbi, ↓zeh, ↓zbe, ↓zbn, ↓zbj, ↓zbo, ↓zbk, ↓zec, ↓zej, ↓zbd, ↓zbp, ↓zdW, ↓zdV, ↓zea, iN, bT, bF, eN, ↓zci, ↓unC, ↓zS, ↓zE, ↓zF, ↓zJ, ↓zZ, ↓zaD, ↓zcj, ↓zab, ↓zbr, ↓zU, ↓zl, ↓zo, ↓zbz, ↓zg, ↓zad, ↓zI, ↓zaz, ↓zaJ, ↓zc, ↓zB, ↓zn, ↓zq, ↓zaj, ↓zcB, ↓zcE, ↓zah, ↓zao, ↓zaA, ↓zaO, ↓zaT, ↓zm, ↓zae, ↓zG, ↓zp, ↓zY, zcD, zaV, zaU, unA, zcK, bnd, zcZ, zaa, zag, zdh, dm, dm1, zM, zau, zdy, zdx, zT, Q0, Q1, Q2, Q3, Q4, Q5, zR, zi, zk, zu, zy, Q6, Q7, Q8, Q9, Q10, Q11, Q12, Q13, Q14, Nat.reduceAdd, Q15, Int.reduceToNat, Q16, Q17, Q18, Q19, Q20, reduceIte, Q21, Q22, zA, rep, zV, zdX, toD, zaf, Q23, Q24, Q25, Q26, Q27, Q28, Nat.reduceLeDiff, Q29, Nat.reduceSub, Q30, Q31, Q32, sc, Q33, Q34, Q35, Q36, Q37, Q26, Q38, Q39, zjZ, zjW, zjT, zka, zdJ, zjX, zjU, zjY, zjV, zdI, zdK, zkf, zkg, Bool.not_true, Bool.not_false, List.length_map] | with_reducible refine zkw ?_ | fail); exact h.go) : P := e ⟨h⟩
theorem c_rqCheck {σ : List zb} {x : zf} (hx : okO x.op) {K : AV → List zb → Prop} (hK : K (.d (.int .i64 (zD x))) σ) : zt Tryz.prog zdE [reqA x] σ K := by
  refine ziC zns fun hl => ?_
  have fin : ∀ z, zD x = z → K (.d (.int .i64 z)) σ := fun z h => h ▸ hK
  clear hK
  simp only [zhZ, iN, bT, bF, eN, reqA]
  (repeat' (first | (refine zlH ?_; try with_reducible exact True.intro) | (refine zL (fun h => ?_) (fun h => ?_) <;> (try rw [h])) | ((with_reducible refine And.intro ?_ ?_); focus (first | omega | rfl | decide))))
  all_goals first
    | (refine zam hl ?_
       (try simp only [decide_eq_true_eq, decide_eq_false_iff_not, beq_iff_eq, beq_eq_false_iff_ne, bne_iff_ne, ne_eq, Bool.not_eq_true', Bool.not_eq_false', bne_eq_false_iff_eq] at *)
       exact fin _ (by rw [zD, if_pos (by omega)]))
    | skip
  refine c_Check (o := x.op) hx.1 hx.2.1 hx.2.2.1 ?_
  refine zod ?_
  refine zam hl ?_
  (try simp only [decide_eq_true_eq, decide_eq_false_iff_not, beq_iff_eq, beq_eq_false_iff_ne, bne_iff_ne, ne_eq, Bool.not_eq_true', Bool.not_eq_false', bne_eq_false_iff_eq] at *)
  exact fin _ (by rw [zD, if_neg (by omega)])
theorem c_rKey {σ : List zb} {c : Int} {K : AV → List zb → Prop} (hK : K (.d (.int .i64 (if c < 0 ∨ c ≥ 8 then -1 else 13 + c))) σ) : zt Tryz.prog zhH [.d (.int .i64 c)] σ K := by
  refine ziC e_r08_Key fun hl => ?_
  have fin : ∀ z, (if c < 0 ∨ c ≥ 8 then -1 else 13 + c) = z → K (.d (.int .i64 z)) σ := fun z h => h ▸ hK
  clear hK
  simp only [S_r08_Key, iN, bT, bF, eN]
  (repeat' (first | (refine zlH ?_; try with_reducible exact True.intro) | (refine zL (fun h => ?_) (fun h => ?_) <;> (try rw [h])) | ((with_reducible refine And.intro ?_ ?_); focus (first | omega | rfl | decide))))
  all_goals
    refine zam hl ?_
    (try simp only [decide_eq_true_eq, decide_eq_false_iff_not, beq_iff_eq, beq_eq_false_iff_ne, bne_iff_ne, ne_eq, Bool.not_eq_true', Bool.not_eq_false', bne_eq_false_iff_eq] at *)
  · exact fin _ (by rw [if_pos (by omega)])
  · exact fin _ (by rw [if_pos (by omega)])
  · exact fin _ (by rw [if_neg (by omega), zap (by omega) (by omega)])
theorem zfN {A P Q : Prop} (a : A) (h : Q) (e : A → Hd Q → P := by intro a h; (repeat' first | simp -dsimp only [↓zek, ↓zar, ↓zbg, ↓zel, ↓zef, ↓zed, ↓zeg, ↓zee, ↓zbl, ↓zbh, ↓zbm, ↓zbi, ↓zeh, ↓zbe, ↓zbn, ↓zbj, ↓zbo, ↓zbk, ↓zec, ↓zej, ↓zbd, ↓zbp, ↓zdW, ↓zdV, ↓zea, iN, bT, bF, eN, ↓zci, ↓unC, ↓zS, ↓zE, ↓zF, ↓zJ, ↓zZ, ↓zaD, ↓zcj, ↓zab, ↓zbr, ↓zU, ↓zl, ↓zo, ↓zbz, ↓zg, ↓zad, ↓zI, ↓zaz, ↓zaJ, ↓zc, ↓zB, ↓zn, ↓zq, ↓zaj, ↓zcB, ↓zcE, ↓zah, ↓zao, ↓zaA, ↓zaO, ↓zaT, ↓zm, ↓zae, ↓zG, ↓zp, ↓zY, zcD, zaV, zaU, unA, zcK, bnd, zcZ, zaa, zag, zdh, dm, dm1, zM, zau, zdy, zdx, zT, Q0, Q1, Q2, Q3, Q4, Q5, zR, zi, zk, zu, zy, Q6, Q7, Q8, Q9, Q10, Q11, Q12, Q13, Q14, Nat.reduceAdd, Q15, Int.reduceToNat, Q16, Q17, Q18, Q19, Q20, reduceIte, Q21, Q22, zA, rep, zV, zdX, toD, zaf, Q23, Q24, Q25, Q26, Q27, Q28, Nat.reduceLeDiff, Q29, Nat.reduceSub, Q30, Q31, Q32, sc, Q33, Q34, Q35, Q36, Q37, Q26, Q38, Q39, zjZ, zjW, zjT, zka, zdJ, zjX, zjU, zjY, zjV, zdI, zdK, zkf, zkg, Bool.not_true, Bool.not_false, List.length_map, a] | with_reducible refine zkw ?_ | fail); exact h.go) : P := e a ⟨h⟩
theorem zoR {σ : List zb} {x : zf} (hx : okO x.op) {K : AV → List zb → Prop} (hK : K (.d (.int .i64 (zD x))) σ) : zt Tryz.prog zgN [reqA x] σ K := by
  refine ziC e_r08_Check fun hl => ?_
  have fin : ∀ z, zD x = z → K (.d (.int .i64 z)) σ := fun z h => h ▸ hK
  clear hK
  simp only [znL, iN, bT, bF, eN, reqA]
  refine zod ?_
  refine c_rKey ?_
  by_cases hc : x.client < 0 ∨ x.client ≥ 8
  · rw [if_pos hc]
    refine zfN (show decide ((-1 : Int) < 0) = true from rfl) ?_
    refine zam hl ?_
    exact fin _ (by rw [zD, if_pos (by omega)])
  · rw [if_neg hc]
    have h0 : decide (13 + x.client < 0) = false := by simp; omega
    (refine gq24 h0 ?_; try with_reducible exact True.intro)
    (repeat' (first | (refine zlH ?_; try with_reducible exact True.intro) | (refine zL (fun h => ?_) (fun h => ?_) <;> (try rw [h])) | ((with_reducible refine And.intro ?_ ?_); focus (first | omega | rfl | decide))))
    all_goals first
      | (refine zam hl ?_
         (try simp only [decide_eq_true_eq, decide_eq_false_iff_not, beq_iff_eq, beq_eq_false_iff_ne, bne_iff_ne, ne_eq, Bool.not_eq_true', Bool.not_eq_false', bne_eq_false_iff_eq] at *)
         exact fin _ (by rw [zD, if_pos (by omega)]))
      | skip
    refine c_rCheck (o := x.op) hx.1 hx.2.1 hx.2.2.1 ?_
    refine zod ?_
    refine zam hl ?_
    (try simp only [decide_eq_true_eq, decide_eq_false_iff_not, beq_iff_eq, beq_eq_false_iff_ne, bne_iff_ne, ne_eq, Bool.not_eq_true', Bool.not_eq_false', bne_eq_false_iff_eq] at *)
    exact fin _ (by rw [zD, if_neg (by omega)])
theorem zkp {σ : List zb} {k d : Int} {K : AV → List zb → Prop} (hK : K (.d (.int .i64 (zal k d))) σ) : zt Tryz.prog zcm [.agg [.d (.int .i64 k), .d (.int .i64 d)]] σ K := by
  refine ziC zjr fun hl => ?_
  have fin : ∀ z, zal k d = z → K (.d (.int .i64 z)) σ := fun z h => h ▸ hK
  clear hK
  simp only [zfC, iN, bT, bF, eN]
  (repeat' (first | (refine zlH ?_; try with_reducible exact True.intro) | (refine zL (fun h => ?_) (fun h => ?_) <;> (try rw [h])) | ((with_reducible refine And.intro ?_ ?_); focus (first | omega | rfl | decide))))
  all_goals
    refine zam hl ?_
    (try simp only [decide_eq_true_eq, decide_eq_false_iff_not, beq_iff_eq, beq_eq_false_iff_ne, bne_iff_ne, ne_eq, Bool.not_eq_true', Bool.not_eq_false', bne_eq_false_iff_eq] at *)
    first | exact fin _ (by rw [zal, if_pos (by omega)]) | exact fin _ (by rw [zal, if_neg (by omega)])
theorem ziU {σ : List zb} {k d : Int} {K : AV → List zb → Prop} (hK : K (.d (.int .i64 (zal k d))) σ) : zt Tryz.prog zdH [.agg [.d (.int .i64 k), .d (.int .i64 d)]] σ K := by
  refine ziC znx fun hl => ?_
  have fin : ∀ z, zal k d = z → K (.d (.int .i64 z)) σ := fun z h => h ▸ hK
  clear hK
  simp only [zie, iN, bT, bF, eN]
  (repeat' (first | (refine zlH ?_; try with_reducible exact True.intro) | (refine zL (fun h => ?_) (fun h => ?_) <;> (try rw [h])) | ((with_reducible refine And.intro ?_ ?_); focus (first | omega | rfl | decide))))
  all_goals
    refine zam hl ?_
    (try simp only [decide_eq_true_eq, decide_eq_false_iff_not, beq_iff_eq, beq_eq_false_iff_ne, bne_iff_ne, ne_eq, Bool.not_eq_true', Bool.not_eq_false', bne_eq_false_iff_eq] at *)
    first | exact fin _ (by rw [zal, if_pos (by omega)]) | exact fin _ (by rw [zal, if_neg (by omega)])
end Go.Proofs.YtjjchfbckfopkaaGreat
