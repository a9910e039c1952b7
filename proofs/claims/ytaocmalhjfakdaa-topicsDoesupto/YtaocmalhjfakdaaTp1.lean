/- Contracts: the document's topics: where one stands; one is made. -/
import Derived.Test.YtaocmalhjfakdaaSpMap
import Derived.Test.YtaocmalhjfakdaaSpTop
set_option linter.all false
set_option maxRecDepth 100000
set_option linter.unusedSimpArgs false
set_option linter.unusedVariables false
namespace Go.Proofs.Ytaocmalhjfakdaa
open Go.AW

def zbb : List (Int × Int × Int) → List AV
  | [] => []
  | a :: r => .d (.int .i64 a.1) :: .d (.int .i64 a.2.1) :: .d (.int .i64 a.2.2) :: zbb r
structure zbo (σ : List zb) (id t g : Nat) (T : zP) : Prop where
  box : σ[id]? = some (.box (.rsl t g 4 0 T.l.length :: zbb T.last))
  row : σ[t]? = some (.row g 4 (zM (zaw T.l)))
  last : T.last.length = 8
structure zgz (σ S : List zb) (id : Nat) : Prop where
  len : σ.length ≤ S.length
  get : ∀ (j : Nat) (x : zb), σ[j]? = some x → j ≠ id → (∀ g sz cs, x ≠ .row g sz cs) → S[j]? = some x
theorem zgz.app (σ τ : List zb) (id : Nat) : zgz σ (σ ++ τ) id := ⟨by simp, fun _ _ h _ _ => ze h⟩
theorem zgz.trans {σ S R : List zb} {id : Nat} (h : zgz σ S id) (h' : zgz S R id) : zgz σ R id := ⟨Nat.le_trans h.len h'.len, fun j x hx hj hr => h'.get j x (h.get j x hx hj hr) hj hr⟩
theorem zbo.app {σ : List zb} {id t g : Nat} {T : zP} (h : zbo σ id t g T) (τ : List zb) : zbo (σ ++ τ) id t g T := ⟨ze h.box, ze h.row, h.last⟩
theorem zbU {σ : List zb} {e : Int} {K : AV → List zb → Prop} (hK : K (.agg [.d (.int .i64 e), .d (.int .i64 0)]) σ) : zu Try.prog zbY [.d (.int .i64 e)] σ K := by
  refine zlr e_r07_bad fun hl => ?_
  simp only [S_r07_bad, iN, bT, bF, eN]
  refine zbw ?_
  refine zde hl ?_
  exact hK
theorem zfu {σ : List zb} {x : zJ} (hb : -9223372036854775808 ≤ x.next ∧ x.next ≤ 9223372036854775807) {K : AV → List zb → Prop} (hK : K (.d (.int .i64 x.next)) σ) : zu Try.prog zaJ [.agg [.d (.str x.name), .d (.int .i64 x.base), .d (.slice (zQ x.recs)), .d (.slice (zaC x.groups))]] σ K := by
  refine zlr zjV fun hl => ?_
  have hlen := zn x.recs
  have hw : IntKind.i64.wrap (x.base + (x.recs.length : Int)) = x.next := zaO hb.1 hb.2
  simp only [zgm, iN, bT, bF, eN]
  refine zV (zd hlen hw) ?_
  refine zde hl ?_
  exact hK
theorem zjB {A P Q : Prop} (a : A) (h : Q) (e : A → Hd Q → P := by intro a h; (repeat' first | simp -dsimp only [↓zhT, ↓zbn, ↓zcK, ↓zhV, ↓zhN, ↓zhL, ↓zhO, ↓zhM, ↓zcQ, ↓zcM, ↓zcR, ↓zcN, ↓zhP, ↓zcI, ↓zcS, ↓zcO, ↓zcT, ↓zcP, ↓zhJ, ↓zhS, ↓zcH, ↓zcV, ↓zhC, ↓zhB, ↓zhI, iN, bT, bF, eN, ↓zeJ, ↓unC, ↓zap, ↓zR, ↓zS, ↓zY, ↓zaF, ↓zaY, ↓zdC, ↓zax, ↓zcY, ↓zae, ↓zk, ↓zi, ↓zcc, ↓zg, ↓zaq, ↓zt, ↓zbc, ↓zbk, ↓zf, ↓zA, ↓zw, ↓zx, ↓zaL, ↓zeU, ↓zeT, ↓zaM, ↓zbd, ↓zbg, ↓zbF, ↓zcj, ↓zC, ↓zay, ↓zT, ↓zF, ↓zaE, zeP, zcu, zco, unA, zfn, bnd, zfF, zai, zag, zfW, dm, dm1, zj, zaD, zgu, zgt, keepO, Q0, Q1, Q2, Q3, Q4, Q5, zao, zE, zl, zar, zW, Q6, Q7, Q8, Q9, Q10, Q11, Q12, Q13, Q14, Nat.reduceAdd, Q15, Int.reduceToNat, Q16, Q17, Q18, Q19, Q20, reduceIte, Q21, Q22, zn, rep, zX, zhD, toD, zaz, Q23, Q24, Q25, Q26, Q27, Q28, Nat.reduceLeDiff, Q29, Nat.reduceSub, Q30, Q31, Q32, sc, Q33, Q34, Q35, Q36, Q37, Q26, Q38, Q39, n0gt, n1gt, n2gt, n0eq, ziD, n1eq, n2eq, n0ne, n1ne, ziC, ziE, i0ne, i0eq, Bool.not_true, Bool.not_false, List.length_map, Bool.and_false, Bool.and_self, Bool.false_and, Bool.not_false, Bool.not_true, Bool.true_and, Int.toNat_natCast, Int.toNat_zero, List.drop_zero, List.length_map, List.length_nil, List.nil_append, List.take_length, Nat.sub_zero, Nat.zero_add, Option.isSome_none, Option.isSome_some, Option.map_none, Option.map_some, zfO, beq_self_eq_true, bne_self_eq_false, a] | with_reducible refine andA ?_ | fail); exact h.go) : P := e a ⟨h⟩
theorem c_r7at {σ : List zb} {id t g : Nat} {T : zP} {n : List UInt8} (hT : zbo σ id t g T) (hn : T.l.length ≤ 1073741824) {K : AV → List zb → Prop}
    (hK : K (.d (.int .i64 (match atF n T.l 0 with | some k => (k : Int) | none => -1))) σ) : zu Try.prog zbs [.box id 0, .d (.str n)] σ K := by
  refine acE2 zkN fun hl => ?_
  have hb := hT.box
  have hr := hT.row
  simp only [zgX, iN, bT, bF, eN]
  refine zbw ?_
  refine zI T.l.length (fun k vs s => vs = [.d (.int .i64 k)] ∧ s = σ ∧ atF n T.l 0 = atF n (T.l.drop k) k) ⟨rfl, rfl, by simp⟩ ?_
  rintro k vs s hk ⟨rfl, hs, hpf⟩
  rw [hs]
  by_cases hlt : k < T.l.length
  · have hd : decide ((k : Int) < (T.l.length : Int)) = true := by simp; omega
    have hx : T.l[k]? = some T.l[k] := by simp [hlt]
    obtain ⟨x, hxe⟩ : ∃ x, T.l[k] = x := ⟨_, rfl⟩
    rw [hxe] at hx
    have e2 : (zM (zaw T.l))[k * 4]? = some (.d (.str x.name)) := zdQ (i := 0) (zbx T.l) (zaP hx) (by omega)
    rw [atF_step hx] at hpf
    cases h1 : (x.name == n)
    · rw [if_neg (by simp [h1])] at hpf
      refine zjB (zd hb (zd hr (zd hd (zd e2 (zd h1 (wkc k (by omega))))))) ?_
      exact zca.next hlt ⟨rfl, rfl, hpf⟩
    · rw [if_pos h1] at hpf
      rw [hpf] at hK
      refine zjB (zd hb (zd hr (zd hd (zd e2 h1)))) ?_
      refine zde hl ?_
      exact hK
  · have hd : decide ((k : Int) < (T.l.length : Int)) = false := by simp; omega
    rw [List.drop_eq_nil_of_le (by omega)] at hpf
    rw [hpf] at hK
    refine zjB (zd hb hd) ?_
    refine zde hl ?_
    exact hK
theorem gq22 {A P Q : Prop} (a : A) (h : Q) (e : A → Hd Q → P := by intro a h; (repeat' first | simp -dsimp only [↓zhT, ↓zbn, ↓zcK, ↓zhV, ↓zhN, ↓zhL, ↓zhO, ↓zhM, ↓zcQ, ↓zcM, ↓zcR, ↓zcN, ↓zhP, ↓zcI, ↓zcS, ↓zcO, ↓zcT, ↓zcP, ↓zhJ, ↓zhS, ↓zcH, ↓zcV, ↓zhC, ↓zhB, ↓zhI, iN, bT, bF, eN, ↓zeJ, ↓unC, ↓zap, ↓zR, ↓zS, ↓zY, ↓zaF, ↓zaY, ↓zdC, ↓zax, ↓zcY, ↓zae, ↓zk, ↓zi, ↓zcc, ↓zg, ↓zaq, ↓zt, ↓zbc, ↓zbk, ↓zf, ↓zA, ↓zw, ↓zx, ↓zaL, ↓zeU, ↓zeT, ↓zaM, ↓zbd, ↓zbg, ↓zbF, ↓zcj, ↓zC, ↓zay, ↓zT, ↓zF, ↓zaE, zeP, zcu, zco, unA, zfn, bnd, zfF, zai, zag, zfW, dm, dm1, zj, zaD, zgu, zgt, keepO, Q0, Q1, Q2, Q3, Q4, Q5, zao, zE, zl, zar, zW, Q6, Q7, Q8, Q9, Q10, Q11, Q12, Q13, Q14, Nat.reduceAdd, Q15, Int.reduceToNat, Q16, Q17, Q18, Q19, Q20, reduceIte, Q21, Q22, zn, rep, zX, zhD, toD, zaz, Q23, Q24, Q25, Q26, Q27, Q28, Nat.reduceLeDiff, Q29, Nat.reduceSub, Q30, Q31, Q32, sc, Q33, Q34, Q35, Q36, Q37, Q26, Q38, Q39, n0gt, n1gt, n2gt, n0eq, ziD, n1eq, n2eq, n0ne, n1ne, ziC, ziE, i0ne, i0eq, Bool.not_true, Bool.not_false, List.length_map, List.drop_zero, Nat.sub_zero, Nat.zero_add, Nat.zero_mul, ↓zdx, ↓zjS, a] | with_reducible refine andA ?_ | fail); exact h.go) : P := e a ⟨h⟩
theorem c_r7create {σ : List zb} {id t g : Nat} {T : zP} {n : List UInt8} (hT : zbo σ id t g T) (hn : T.l.length ≤ 8) {K : AV → List zb → Prop}
    (hK : ∀ S t' g', zbo S id t' g' (zaK T n).2 → zgz σ S id → K (.agg [.d (.int .i64 (zaK T n).1.1), .d (.int .i64 (zaK T n).1.2)]) S) : zu Try.prog zdb [.box id 0, .d (.str n)] σ K := by
  refine zau zer.is rfl fun hl _ => zer.goes ?_
  have hb := hT.box
  have hr := hT.row
  have xb : ∀ τ, (σ ++ τ)[id]? = _ := fun τ => ze hb
  have xr : ∀ τ, (σ ++ τ)[t]? = _ := fun τ => ze hr
  simp only [zex, iN, bT, bF, eN]
  refine zbw ?_
  refine c_r7at (hT.app _) (by omega) ?_
  cases h1 : atF n T.l 0 with
  | some k =>
    have hd : decide ((k : Int) ≥ 0) = true := by simp
    have hF : zaK T n = ((5, 0), T) := by rw [zaK, h1]; rfl
    rw [hF] at hK
    simp only []
    refine zV hd ?_
    refine zbU ?_
    refine zbw ?_
    exact zaR (hK _ t g (hT.app _) (.app _ _ _))
  | none =>
    simp only []
    cases h2 : decide ((T.l.length : Int) ≥ 8)
    rotate_left
    · have hF : zaK T n = ((6, 0), T) := by
        rw [zaK, h1, if_neg (by simp), if_pos (by simp at h2; omega)]
      rw [hF] at hK
      refine zjB (zd (show decide ((-1 : Int) ≥ 0) = false from rfl) (zd xb h2)) ?_
      refine zbU ?_
      refine zbw ?_
      exact zaR (hK _ t g (hT.app _) (.app _ _ _))
    have hF : zaK T n = ((0, 0), { T with l := T.l.take (zgM n T.l) ++ ⟨n, 0, [], []⟩ :: T.l.drop (zgM n T.l) }) := by
      rw [zaK, h1, if_neg (by simp), if_neg (by simp at h2; omega)]
    rw [hF] at hK
    refine zjB (zd (show decide ((-1 : Int) ≥ 0) = false from rfl) (zd xb h2)) ?_
    refine zI T.l.length (fun k vs s => vs = [.d (.int .i64 k)] ∧ s = σ ++ [.box [.d (.int .i64 0), .d (.int .i64 0)]] ∧ zgM n T.l = k + zgM n (T.l.drop k)) ⟨rfl, rfl, by simp⟩ ?_
    rintro k vs s hk ⟨rfl, rfl, hpf⟩
    have f4 := zbx T.l
    have hid := zh hb
    have xs : ∀ Y τ, (σ ++ τ).set id Y = σ.set id Y ++ τ := fun Y τ => List.set_append_left _ _ hid
    have ys : ∀ Y a τ, (σ.set id Y ++ a :: τ)[σ.length]? = some a := fun Y a τ => by rw [List.getElem?_append_right (by simp)]; simp
    have zs : ∀ Y a τ b, (σ.set id Y ++ a :: τ).set σ.length b = σ.set id Y ++ b :: τ := fun Y a τ b => by rw [List.set_append_right _ _ (by simp)]; simp
    have f4t := zbx (T.l.take k)
    have ht : List.take (k * 4) (zM (zaw T.l)) = zM (zaw (T.l.take k)) := by rw [zlM f4, ← List.map_take]
    have hdp : List.take ((T.l.length - k) * 4) (List.drop (k * 4) (zM (zaw T.l))) = zM (zaw (T.l.drop k)) := by
      rw [zjl f4, ← List.map_drop, List.take_of_length_le]
      rw [zcU (zbx _)]; simp
    have hl1 : (zM (zaw (T.l.take k))).length = k * 4 := by rw [zcU f4t]; simp [hk]
    by_cases hlt : k < T.l.length ∧ (T.l[k]?.map fun x => Op.bytesLess x.name n) = some true
    · obtain ⟨hlt, hx3⟩ := hlt
      have hd : decide ((k : Int) < (T.l.length : Int)) = true := by simp; omega
      have hx : T.l[k]? = some T.l[k] := by simp [hlt]
      obtain ⟨x, hxe⟩ : ∃ x, T.l[k] = x := ⟨_, rfl⟩
      rw [hxe] at hx
      have e2 : (zM (zaw T.l))[k * 4]? = some (.d (.str x.name)) := zdQ (i := 0) (zbx T.l) (zaP hx) (by omega)
      rw [zlG hx] at hpf
      have h3 : Op.bytesLess x.name n = true := by rw [hx] at hx3; simpa using hx3
      rw [if_pos h3] at hpf
      refine zjB (zd xb (zd xr (zd hd (zd e2 (zd h3 (wkc k (by omega))))))) ?_
      exact zca.next hlt ⟨rfl, rfl, by omega⟩
    · have hk0 : zgM n T.l = k := by
        by_cases h : k < T.l.length
        · have hx : T.l[k]? = some T.l[k] := by simp [h]
          rw [hpf, zlG hx, if_neg]
          · rfl
          · intro h3; exact hlt ⟨h, by rw [hx]; simp [h3]⟩
        · rw [hpf, List.drop_eq_nil_of_le (by omega)]; rfl
      rw [hk0] at hK
      rcases Nat.lt_or_ge k T.l.length with h | h
      case' inl =>
        have hd : decide ((k : Int) < (T.l.length : Int)) = true := by simp; omega
        have hx : T.l[k]? = some T.l[k] := by simp [h]
        obtain ⟨x, hxe⟩ : ∃ x, T.l[k] = x := ⟨_, rfl⟩
        rw [hxe] at hx
        have e2 : (zM (zaw T.l))[k * 4]? = some (.d (.str x.name)) := zdQ (i := 0) (zbx T.l) (zaP hx) (by omega)
        have h3 : Op.bytesLess x.name n = false := by
          cases h3 : Op.bytesLess x.name n
          · rfl
          · exact (hlt ⟨h, by rw [hx]; simp [h3]⟩).elim
        refine gq22 (zd xb (zd xr (zd hd (zd e2 (zd h3 (zd ht (zd hdp (zd hl1 (zd xs (zd ys zs)))))))))) ?_
      case' inr =>
        have hd : decide ((k : Int) < (T.l.length : Int)) = false := by simp; omega
        refine gq22 (zd xb (zd xr (zd hd (zd ht (zd hdp (zd hl1 (zd xs (zd ys zs)))))))) ?_
      all_goals
        have hlen1 : (zaw (T.l.take k)).length = k := by simp [hk]
        have c1 : (zM (zaw (T.l.take k)) ++ AV.d (.str n) :: AV.d (.int .i64 0) :: AV.exact [] :: AV.exact [] :: zM (zaw (T.l.drop k)))[k * 4 + 2]? = some (.exact []) := by
          rw [List.getElem?_append_right (by omega), hl1, Nat.add_sub_cancel_left]; rfl
        have c2 : ((zM (zaw (T.l.take k)) ++ AV.d (.str n) :: AV.d (.int .i64 0) :: AV.exact [] :: AV.exact [] :: zM (zaw (T.l.drop k))).set (k * 4 + 2) (.d (.slice [])))[k * 4 + 3]? = some (.exact []) := by
          rw [List.getElem?_set_ne (by omega), List.getElem?_append_right (by omega), hl1, Nat.add_sub_cancel_left]; rfl
        have c3 : ((zM (zaw (T.l.take k)) ++ AV.d (.str n) :: AV.d (.int .i64 0) :: AV.exact [] :: AV.exact [] :: zM (zaw (T.l.drop k))).set (k * 4 + 2) (.d (.slice []))).set (k * 4 + 3) (.d (.slice [])) = zM (zaw (T.l.take k ++ ⟨n, 0, [], []⟩ :: T.l.drop k)) := by
          rw [List.set_append_right _ _ (by omega), List.set_append_right _ _ (by omega), hl1, Nat.add_sub_cancel_left, Nat.add_sub_cancel_left]
          simp [zM, zQ]
        have g1 : ∀ X Y, (σ.set id X ++ [zb.box [.d (.int .i64 0), .d (.int .i64 0)], Y, .row 0 4 [AV.d (.str n), AV.d (.int .i64 0), AV.exact [], AV.exact []]])[σ.length + 1]? = some Y := fun X Y => by
          rw [List.getElem?_append_right (by simp)]; simp
        have g2 : ∀ X Y Z, (σ.set id X ++ [zb.box [.d (.int .i64 0), .d (.int .i64 0)], Y, .row 0 4 [AV.d (.str n), AV.d (.int .i64 0), AV.exact [], AV.exact []]]).set (σ.length + 1) Z = σ.set id X ++ [zb.box [.d (.int .i64 0), .d (.int .i64 0)], Z, .row 0 4 [AV.d (.str n), AV.d (.int .i64 0), AV.exact [], AV.exact []]] := fun X Y Z => by
          rw [List.set_append_right _ _ (by simp)]; simp
        refine ⟨_, .dataR (σ.length + 1) (k * 4 + 2) 2 4 _ (.exact []) [] (g1 _ _) c1 rfl (.dataR (σ.length + 1) (k * 4 + 3) 2 4 _ (.exact []) [] (by rw [g2]; exact g1 _ _) c2 rfl (.refl _ _)), ?_⟩
        rw [g2, g2, c3]
        refine hK _ (σ.length + 1) 2 ⟨?_, g1 _ _, hT.last⟩ ⟨by simp, fun j x hx hj hr => ?_⟩
        · rw [List.getElem?_append_left (by simpa using hid)]
          simp [hid]
          omega
        · rw [List.getElem?_append_left (by simpa using zh hx), List.getElem?_set_ne (Ne.symm hj)]
          exact hx
end Go.Proofs.Ytaocmalhjfakdaa
