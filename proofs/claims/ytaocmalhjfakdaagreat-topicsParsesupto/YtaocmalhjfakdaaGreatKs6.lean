/- Contracts: all records of a topic, by its range; topics that are the same. -/
import Derived.Test.YtaocmalhjfakdaaGreatTp6
import Derived.Test.YtaocmalhjfakdaaGreatKs4
import Derived.Test.YtaocmalhjfakdaaGreatLaw07a
set_option linter.all false
set_option maxRecDepth 100000
set_option linter.unusedSimpArgs false
set_option linter.unusedVariables false
namespace Go.Proofs.YtaocmalhjfakdaaGreat
open Go.AW

def atsQ (b : Int) (i : Nat) : List Int := (List.range i).map fun (j : Nat) => b + (j : Int)
abbrev atsE (b : Int) (i : Nat) : List (List D) := (atsQ b i).map fun n => [.int .i64 n]
theorem atsE_len (b : Int) (i : Nat) : (atsE b i).length = i := by rw [atsE, List.length_map, atsQ, List.length_map, List.length_range]
theorem atsE_succ (b : Int) (i : Nat) : atsE b (i + 1) = atsE b i ++ [[.int .i64 (b + i)]] := by
  simp [atsE, atsQ, List.range_succ]
theorem atsE_get {b : Int} {n i : Nat} (h : i < n) : (atsE b n)[i]? = some [.int .i64 (b + i)] := by
  simp [atsQ, h]
theorem zfj.prg {σ : List zc} {id : Nat} {T : zak} {O : Nat → Prop} (h : zfj σ id T O) : ∃ m X, zfp σ id m X T.last ∧ Rel X T.l := by
  obtain ⟨m, X, h1, h2, _⟩ := h
  exact ⟨m, X, h1, h2⟩
theorem zfj.srt {σ : List zc} {id : Nat} {T : zak} {O : Nat → Prop} (h : zfj σ id T O) : ∀ x ∈ T.l, zcV Prod.fst x.groups := by
  obtain ⟨m, X, h1, h2⟩ := h.prg
  intro x hx
  obtain ⟨p, _, hr⟩ := h2.bw x hx
  exact hr.gr.sort
theorem rc_weak {σ : List zc} (vs : List AV) : zle vs (σ ++ [zc.box [AV.exact []], zc.box [AV.exact []]]) vs (σ ++ [zc.box [.own (σ.length + 2) []], zc.box [.own (σ.length + 3) []], .tok 1 0, .tok 1 0]) := by
  refine .tokB σ.length 0 _ [] 1 (by rw [zj]; rfl) rfl (by simp) ?_
  rw [zP, zap]
  simp only [List.set_cons_succ, List.set_cons_zero, List.length_cons, List.length_nil, List.append_assoc, List.cons_append, List.nil_append]
  refine .tokB (σ.length + 1) 0 _ [] 1 (by rw [zE]; rfl) rfl (by simp) ?_
  rw [zat, zap]
  simp only [List.set_cons_succ, List.set_cons_zero, List.length_cons, List.length_nil, List.append_assoc, List.cons_append, List.nil_append]
  exact .refl _ _
structure RcJ (B : List zc) (n : Nat) (b : Int) (l : List (List UInt8)) (i : Nat) (s : List zc) : Prop where
  len : B.length + 1 < s.length
  out : ∀ j, j < B.length → j ≠ n → j ≠ n + 1 → j ≠ n + 2 → j ≠ n + 3 → s[j]? = B[j]?
  a : s[n]? = some (.box [.own (n + 2) (atsE b i)])
  b : s[n + 1]? = some (.box [.own (n + 3) (zK (l.take i))])
  ta : s[n + 2]? = some (.tok 1 i)
  tb : s[n + 3]? = some (.tok 1 i)
section

variable {σ : List zc} {id : Nat} {T : zak} {O : Nat → Prop} {K : KT}

theorem c_records {n : List UInt8} (h : zfj σ id T O) (hI : zed T) (hK : K (.tup [.d (.slice (atsE (zhj T n) (zdC T n).length)), .d (.slice (zK (zdC T n)))]) σ) : zn Tryz.prog zhH [.box id 0, .d (.str n)] σ K := by
  obtain ⟨m, X, hP, hR⟩ := h.prg
  obtain ⟨hq1, hq2⟩ := recsQ_len hI n
  refine znT zpk fun hl => ?_
  simp only [zlf, iN, bT, bF, eN]
  refine zby ?_
  refine zn.pre (rc_weak _) ?_
  refine c_tpAll ?_
  obtain ⟨B0, hB0⟩ : ∃ B0, σ ++ [zc.box [.own (σ.length + 2) []], zc.box [.own (σ.length + 3) []], .tok 1 0, .tok 1 0] = B0 := ⟨_, rfl⟩
  have l0 : B0.length = σ.length + 4 := by rw [← hB0]; simp
  have g0 : B0[σ.length]? = some (.box [.own (σ.length + 2) []]) := by rw [← hB0, zj]; rfl
  have g1 : B0[σ.length + 1]? = some (.box [.own (σ.length + 3) []]) := by rw [← hB0, zE]; rfl
  have g2 : B0[σ.length + 2]? = some (.tok 1 0) := by rw [← hB0, zE]; rfl
  have g3 : B0[σ.length + 3]? = some (.tok 1 0) := by rw [← hB0, zE]; rfl
  have go : ∀ j, j < σ.length → B0[j]? = σ[j]? := fun j hj => by rw [← hB0]; exact List.getElem?_append_left hj
  rw [hB0]
  obtain ⟨B, hB⟩ : ∃ B, B0 ++ [zc.box [.box id 0], zc.box [.d (.str n)]] = B := ⟨_, rfl⟩
  have lB : B.length = σ.length + 6 := by rw [← hB]; simp; omega
  have hBo : ∀ j, j < B0.length → B[j]? = B0[j]? := fun j hj => by rw [← hB]; exact List.getElem?_append_left hj
  have b1 : B[B0.length]? = some (.box [.box id 0]) := by rw [← hB, zj]; rfl
  have b2 : B[B0.length + 1]? = some (.box [.d (.str n)]) := by rw [← hB, zE]; rfl
  refine zby ?_
  rw [hB]
  simp only [zin]
  intro l r vs
  have hJ0 : RcJ B σ.length (zhj T n) (zdC T n) 0 (B ++ [zc.dead, .lrec l r vs]) := ⟨by simp, fun j hj _ _ _ _ => List.getElem?_append_left hj, zf ((hBo _ (by omega)).trans g0), zf ((hBo _ (by omega)).trans g1), zf ((hBo _ (by omega)).trans g2), zf ((hBo _ (by omega)).trans g3)⟩
  have hJp : ∀ i s, RcJ B σ.length (zhj T n) (zdC T n) i s → zfp s id m X T.last ∧ s[B0.length]? = some (.box [.box id 0]) ∧ s[B0.length + 1]? = some (.box [.d (.str n)]) := fun i s hJ =>
    ⟨hP.keep fun j hj => by
      have := hP.own_lt hj
      exact ((hJ.out j (by omega) (by omega) (by omega) (by omega) (by omega)).trans (hBo j (by omega))).trans (go j this), (hJ.out _ (by omega) (by omega) (by omega) (by omega) (by omega)).trans b1, (hJ.out _ (by omega) (by omega) (by omega) (by omega) (by omega)).trans b2⟩
  refine ⟨Nat, fun i s => s[B.length + 1]? = some (.lrec l r vs) ∧ RcJ B σ.length (zhj T n) (zdC T n) i s, 0, ANx T n, AFin T n, ?_, ⟨?_, hJ0⟩, fun i s h => h.1, ?_, ?_, ?_⟩
  · rintro i x i' ⟨r, _, rfl, _⟩; rfl
  · rw [List.getElem?_append_right (by omega)]; simp
  · intro hY
    refine c_allRun (T := T) (n := n) hI hR _ (fun i s τ h => ⟨zf h.1, ⟨by have := h.2.len; simp; omega, fun j hj x1 x2 x3 x4 => (List.getElem?_append_left (by have := h.2.len; omega)).trans (h.2.out j hj x1 x2 x3 x4), zf h.2.a, zf h.2.b, zf h.2.ta, zf h.2.tb⟩⟩) (fun i s h => hJp i s h.2) hY ⟨by rw [List.getElem?_append_right (by omega)]; simp, hJ0⟩
  · rintro i x i' s ⟨w, hw, rfl, rfl⟩ ⟨j1, hJ⟩
    have hwl := hq2 w (List.mem_of_getElem? hw)
    have hil := zd hw
    have jl := zg j1
    obtain ⟨RB, hRB⟩ : ∃ RB, zc.lrec l { r with state := .busy } vs = RB := ⟨_, rfl⟩
    obtain ⟨R, hR'⟩ : ∃ R, zc.lrec l r vs = R := ⟨_, rfl⟩
    rw [hR'] at j1 ⊢
    rw [hRB]
    obtain ⟨S, hS⟩ : ∃ S, s.set (B.length + 1) RB = S := ⟨_, rfl⟩
    have hSl : S.length = s.length := by rw [← hS]; simp
    have h1 : ∀ j, j ≠ B.length + 1 → S[j]? = s[j]? := fun j hj => by rw [← hS]; exact List.getElem?_set_ne (Ne.symm hj)
    have f0 : S[σ.length]? = _ := (h1 _ (by omega)).trans hJ.a
    have f1 : S[σ.length + 1]? = _ := (h1 _ (by omega)).trans hJ.b
    have f2 : S[σ.length + 2]? = _ := (h1 _ (by omega)).trans hJ.ta
    have f3 : ∀ Y, (S.set (σ.length + 2) Y)[σ.length + 3]? = some (.tok 1 i) := fun Y => (List.getElem?_set_ne (by omega)).trans ((h1 _ (by omega)).trans hJ.tb)
    have f4 : ∀ Y Z, ((S.set (σ.length + 2) Y).set (σ.length + 3) Z)[σ.length]? = some (.box [.own (σ.length + 2) (atsE (zhj T n) i)]) := fun Y Z => (List.getElem?_set_ne (by omega)).trans ((List.getElem?_set_ne (by omega)).trans f0)
    have f5 : ∀ Y Z V, (((S.set (σ.length + 2) Y).set (σ.length + 3) Z).set σ.length V)[σ.length + 1]? = some (.box [.own (σ.length + 3) (zK ((zdC T n).take i))]) := fun Y Z V => (List.getElem?_set_ne (by omega)).trans ((List.getElem?_set_ne (by omega)).trans ((List.getElem?_set_ne (by omega)).trans f1))
    have f6 : ∀ Y Z V U, ((((S.set (σ.length + 2) Y).set (σ.length + 3) Z).set σ.length V).set (σ.length + 1) U)[B.length + 1]? = some RB := fun Y Z V U => by
      rw [List.getElem?_set_ne (by omega), List.getElem?_set_ne (by omega), List.getElem?_set_ne (by omega), List.getElem?_set_ne (by omega), ← hS]
      exact List.getElem?_set_self jl
    have f7 : ∀ Y, (S.set (σ.length + 2) Y)[σ.length + 1]? = _ := fun Y => (List.getElem?_set_ne (by omega)).trans f1
    have k1 := atsE_len (zhj T n) i
    have k2 : (zK ((zdC T n).take i)).length = i := by rw [zo, List.length_take]; omega
    refine gq29 (zb j1 (zb hS (zb f0 (zb f1 (zb f2 (zb f3 (zb f4 (zb f5 (zb f6 (zb f7 (zb k1 k2))))))))))) ?_
    have e1 := atsE_succ (zhj T n) i
    have e2 : zK ((zdC T n).take (i + 1)) = zK ((zdC T n).take i) ++ [[D.slice (bcs w)]] := by rw [List.take_add_one, hw]; simp [zK]
    have hlS := hJ.len
    have ne4 : ∀ (j : Nat) (V W Y Z : zc), j ≠ σ.length → j ≠ σ.length + 1 → j ≠ σ.length + 2 → j ≠ σ.length + 3 → j ≠ B.length + 1 → (((((S.set (σ.length + 2) V).set (σ.length + 3) W).set σ.length Y).set (σ.length + 1) Z).set (B.length + 1) R)[j]? = s[j]? := fun j V W Y Z x0 x1 x2 x3 x4 => by
      rw [List.getElem?_set_ne (Ne.symm x4), List.getElem?_set_ne (Ne.symm x1), List.getElem?_set_ne (Ne.symm x0), List.getElem?_set_ne (Ne.symm x3), List.getElem?_set_ne (Ne.symm x2)]
      exact h1 j x4
    refine ⟨List.getElem?_set_self (by simp; omega), ⟨by simp; omega, fun j hj x0 x1 x2 x3 => (ne4 j _ _ _ _ x0 x1 x2 x3 (by omega)).trans (hJ.out j hj x0 x1 x2 x3), ?_, ?_, ?_, ?_⟩⟩
    · rw [List.getElem?_set_ne (by omega), List.getElem?_set_ne (by omega), List.getElem?_set_self (by simp; omega), e1]
    · rw [List.getElem?_set_ne (by omega), List.getElem?_set_self (by simp; omega), e2]
    · rw [List.getElem?_set_ne (by omega), List.getElem?_set_ne (by omega), List.getElem?_set_ne (by omega), List.getElem?_set_ne (by omega), List.getElem?_set_self (by omega)]
    · rw [List.getElem?_set_ne (by omega), List.getElem?_set_ne (by omega), List.getElem?_set_ne (by omega), List.getElem?_set_self (by simp; omega)]
  · rintro i s hi ⟨j1, hJ⟩
    rw [AFin] at hi
    subst hi
    have h1 : ∀ R j, j ≠ B.length + 1 → (s.set (B.length + 1) R)[j]? = s[j]? := fun R j hj => List.getElem?_set_ne (Ne.symm hj)
    have g0 : ∀ R, (s.set (B.length + 1) R)[σ.length]? = _ := fun R => (h1 R _ (by omega)).trans hJ.a
    have g1 : ∀ R, (s.set (B.length + 1) R)[σ.length + 1]? = _ := fun R => (h1 R _ (by omega)).trans hJ.b
    rw [List.take_length] at g1
    have hpre : ∀ R, (s.set (B.length + 1) R).take σ.length = σ := fun R => by
      apply List.ext_getElem?
      intro j
      rw [List.getElem?_take]
      split
      · rename_i hj
        exact ((h1 R j (by omega)).trans (hJ.out j (by omega) (by omega) (by omega) (by omega) (by omega))).trans ((hBo j (by omega)).trans (go j hj))
      · rw [List.getElem?_eq_none (by omega)]
    refine zt (zb g0 g1) ?_
    exact ziC (hpre _) (by simp [zeB, ziS, dmT, dm, dm1, zcJ]) hl hK
theorem bounds_topic (T : zak) (n : List UInt8) : zcT T n = match zef T n with | none => (0, 0, 4) | some x => (x.base, x.next, 0) := by
  unfold zcT zef
  cases atF n T.l 0 with
  | none => rfl
  | some k => dsimp only; cases T.l[k]? <;> rfl
theorem get_topic (T : zak) (n : List UInt8) (o : Int) : getF T n o = match zef T n with | none => ([], 4) | some x => if o < x.base ∨ x.next ≤ o then ([], 72) else (x.recs.getD (o - x.base).toNat [], 0) := by
  unfold getF zef
  cases atF n T.l 0 with
  | none => rfl
  | some k => dsimp only; cases T.l[k]? <;> rfl
theorem topic_mem {T : zak} {n : List UInt8} {x : zu} (h : zef T n = some x) : x ∈ T.l := by
  unfold zef at h
  split at h
  · cases h
  · exact List.mem_of_getElem? h
theorem bounds_len {T : zak} (hI : zed T) (n : List UInt8) : IntKind.i64.wrap ((zcT T n).2.1 - (zcT T n).1) = ((zdC T n).length : Int) ∧ (zdC T n ≠ [] → (zcT T n).1 = zhj T n) ∧ 0 ≤ (zcT T n).1 ∧ (zcT T n).1 ≤ 9007199254740992 := by
  rw [bounds_topic, zdC, zhj]
  cases h : zef T n with
  | none => exact ⟨rfl, fun h => absurd rfl h, by simp, by simp⟩
  | some x =>
    have := hI.tops x (topic_mem h)
    have h1 := this.base; have h2 := this.next; have h3 := this.recs
    have hnx : x.next = x.base + x.recs.length := rfl
    refine ⟨?_, fun _ => rfl, h1, by show x.base ≤ _; omega⟩
    show IntKind.i64.wrap (x.next - x.base) = _
    rw [zam (by omega) (by omega)]
    show x.next - x.base = (x.recs.length : Int)
    omega
theorem get_rec {T : zak} {n : List UInt8} {i : Nat} {r : List UInt8} (h : (zdC T n)[i]? = some r) : getF T n (zhj T n + i) = (r, 0) := by
  rw [get_topic]
  unfold zdC at h
  unfold zhj
  cases hx : zef T n with
  | none => rw [hx] at h; simp at h
  | some x =>
    rw [hx] at h
    simp only at h ⊢
    have hl := zd h
    have hnx : x.next = x.base + x.recs.length := rfl
    rw [if_neg (by omega), show (x.base + (i : Int) - x.base).toNat = i by omega, List.getD_eq_getElem?_getD, h]; rfl
theorem gq30 {A P Q : Prop} (a : A) (h : Q) (e : A → Hd Q → P := by intro a h; (repeat' first | simp -dsimp only [↓zhB, ↓zbf, ↓zcv, ↓zhC, ↓zhx, ↓zhv, ↓zhy, ↓zhw, ↓zcA, ↓zcw, ↓zcB, ↓zcx, ↓zhz, ↓zcu, ↓zcC, ↓zcy, ↓zcD, ↓zcz, ↓zhu, ↓zhA, ↓zct, ↓zcE, ↓zhs, ↓zhr, ↓zht, iN, bT, bF, eN, ↓zea, ↓unC, ↓zad, ↓zN, ↓zO, ↓zU, ↓zaw, ↓zbe, ↓zdk, ↓zaa, ↓zcX, ↓zai, ↓zk, ↓zi, ↓zbE, ↓zh, ↓zar, ↓zC, ↓zbb, ↓zbp, ↓ze, ↓zy, ↓zq, ↓zr, ↓zaA, ↓zeC, ↓zeS, ↓zaI, ↓zaT, ↓zbd, ↓zbF, ↓zbU, ↓zx, ↓zav, ↓zL, ↓zA, ↓zau, zeH, zcn, zcf, unA, zeV, bnd, zfP, zah, zX, zft, dm, dm1, zp, zaG, zgx, zgw, zS, Q0, Q1, Q2, Q3, Q4, Q5, zap, zE, zj, zat, zP, Q6, Q7, Q8, Q9, Q10, Q11, Q12, Q13, Q14, Nat.reduceAdd, Q15, Int.reduceToNat, Q16, Q17, Q18, Q19, Q20, reduceIte, Q21, Q22, zo, rep, zab, zgT, toD, zao, Q23, Q24, Q25, Q26, Q27, Q28, Nat.reduceLeDiff, Q29, Nat.reduceSub, Q30, Q31, Q32, sc, Q33, Q34, Q35, Q36, Q37, Q26, Q38, Q39, n0gt, n1gt, n2gt, n0eq, zjQ, n1eq, n2eq, n0ne, n1ne, zjP, zjR, i0ne, i0eq, Bool.not_true, Bool.not_false, List.length_map, rg, a] | with_reducible refine andA ?_ | fail); exact h.go) : P := e a ⟨h⟩
theorem znz {n q : List UInt8} {id2 t g : Nat} (h : zfj σ id T O) (h2 : zbT σ id2 t g T) (hI : zed T) (hK : K (.d (.bool true)) σ) : zn Tryz.prog zek [.box id 0, .box id2 0, .d (.str n), .d (.str q)] σ K := by
  refine acE4 zns fun hl => ?_
  obtain ⟨w1, w2, w3, w4⟩ := bounds_len hI n
  obtain ⟨v1, v2⟩ := recsQ_len hI n
  have al := atsE_len (zhj T n) (zdC T n).length
  have rl := zo (zdC T n)
  simp only [ziR, iN, bT, bF, eN]
  refine zby ?_
  refine c_tpBounds h hI ?_
  refine zby ?_
  refine c_r7Bounds h2 hI ?_
  refine zby ?_
  refine zpr h ?_
  refine zby ?_
  refine zpt h2 hI h.srt ?_
  have s1 : ∀ x : Int, (x != x) = false := fun x => by simp
  refine zt s1 ?_
  refine c_records h hI ?_
  refine zt (zb al (zb rl (zb w1 s1))) ?_
  refine zF (zdC T n).length (fun k vs s => vs = [.d (.int .i64 k)] ∧ s = σ) ⟨rfl, rfl⟩ ?_
  rintro k vs s hk ⟨rfl, rfl⟩
  by_cases hlt : k < (zdC T n).length
  · have hd : decide ((k : Int) < ((zdC T n).length : Int)) = true := by simp; omega
    obtain ⟨r, hr⟩ : ∃ r, (zdC T n)[k]? = some r := ⟨_, List.getElem?_eq_getElem hlt⟩
    have ag : (atsE (zhj T n) (zdC T n).length)[k]? = some [.int .i64 (zhj T n + k)] := atsE_get hlt
    have rg : (zK (zdC T n))[k]? = some [.slice (bcs r)] := zbo (f := fun r => [D.slice (bcs r)]) hr
    have hb := w2 (fun h => by rw [h] at hlt; simp at hlt)
    have hw : IntKind.i64.wrap ((zcT T n).1 + (k : Int)) = zhj T n + k := by rw [zam (by omega) (by omega), hb]
    refine zt (zb hd (zb ag al)) ?_
    refine c_r7Get h2 hI ?_
    rw [get_rec hr]
    have s2 : (zhj T n + (k : Int) != zhj T n + (k : Int)) = false := by simp
    refine gq30 (zb hw (zb s2 rl)) ?_
    refine c_eq07 ?_
    rw [beq_self_eq_true]
    refine zt (wkc k (by omega)) ?_
    exact zbC.next hlt ⟨rfl, rfl⟩
  · have hd : decide ((k : Int) < ((zdC T n).length : Int)) = false := by simp; omega
    refine zt (zb hd al) ?_
    refine zdv hl ?_
    exact hK
end

end Go.Proofs.YtaocmalhjfakdaaGreat
