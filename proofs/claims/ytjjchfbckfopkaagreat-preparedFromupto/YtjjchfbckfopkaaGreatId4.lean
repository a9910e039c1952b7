/- Contracts: the document's tables and ledgers. -/
import Derived.Test.YtjjchfbckfopkaaGreatId3
set_option linter.all false
set_option maxRecDepth 100000
set_option linter.unusedSimpArgs false
set_option linter.unusedVariables false
namespace Go.Proofs.YtjjchfbckfopkaaGreat
open Go.AW

def rtO (l : List (List UInt8)) : zb := .box [.d (.slice (zly l))]
def rlO (g : List zM) : zb := .box [.d (.slice (zjD g))]
theorem zmu (n : Nat) (l : List (List UInt8)) : zpY n (rtO l) := by
  intro c hc
  simp only [List.mem_cons, List.not_mem_nil, or_false] at hc
  subst hc; exact .d _
theorem zpi (n : Nat) (g : List zM) : zpY n (rlO g) := by
  intro c hc
  simp only [List.mem_cons, List.not_mem_nil, or_false] at hc
  subst hc; exact .d _
theorem wki (k : Nat) (h : k ≤ 1073741824) : IntKind.i64.wrap ((k : Int) + 1) = ((k + 1 : Nat) : Int) := by rw [zan (by omega) (by omega)]; rfl
theorem gq6 {P Q : Prop} (h : Q) (e : Hd Q → P := by intro h; (repeat' first | simp -dsimp only [↓zex, ↓zav, ↓zbj, ↓zey, ↓zer, ↓zep, ↓zes, ↓zeq, ↓zbo, ↓zbk, ↓zbp, ↓zbl, ↓zet, ↓zbh, ↓zbq, ↓zbm, ↓zbr, ↓zbn, ↓zem, ↓zew, ↓zbg, ↓zbt, ↓zeh, ↓zeg, ↓zel, iN, bT, bF, eN, ↓zcm, ↓unC, ↓zU, ↓zE, ↓zF, ↓zK, ↓zab, ↓zaA, ↓zct, ↓zY, ↓zbd, ↓zX, ↓zj, ↓zq, ↓zbI, ↓zf, ↓zac, ↓zJ, ↓zaB, ↓zaK, ↓zd, ↓zD, ↓zn, ↓zr, ↓zal, ↓zcE, ↓zcM, ↓zak, ↓zas, ↓zaG, ↓zaM, ↓zaS, ↓zl, ↓zae, ↓zG, ↓zo, ↓zZ, zcK, zbc, zba, unA, zcS, bnd, zdq, zaa, zai, zdr, dm, dm1, zP, zaC, zdL, zdK, zT, Q0, Q1, Q2, Q3, Q4, Q5, zS, zh, zm, zw, zA, Q6, Q7, Q8, Q9, Q10, Q11, Q12, Q13, Q14, Nat.reduceAdd, Q15, Int.reduceToNat, Q16, Q17, Q18, Q19, Q20, reduceIte, Q21, Q22, zx, rep, zV, zei, toD, zaf, Q23, Q24, Q25, Q26, Q27, Q28, Nat.reduceLeDiff, Q29, Nat.reduceSub, Q30, Q31, Q32, sc, Q33, Q34, Q35, Q36, Q37, Q26, Q38, Q39, zlI, zlF, zlC, zlJ, zeI, zlG, zlD, zlH, zlE, zeH, zeJ, zlL, zlM, Bool.not_true, Bool.not_false, List.length_map, Bool.and_false, Bool.and_self, Bool.false_and, Bool.not_false, Bool.not_true, Bool.true_and, Int.toNat_natCast, Int.toNat_zero, List.drop_zero, List.length_map, List.length_nil, List.nil_append, List.take_length, Nat.sub_zero, Nat.zero_add, Option.isSome_none, Option.isSome_some, Option.map_none, Option.map_some, zaq, beq_self_eq_true, bne_self_eq_false, zfp, zcB, zdp, zaG, mgetR, zaM] | with_reducible refine zlY ?_ | fail); exact h.go) : P := e ⟨h⟩
theorem c_rtSame {σ : List zb} {a b : List UInt8} {K : AV → List zb → Prop} (hK : K (.d (.bool (a == b))) σ) : zp Tryz.prog zkr [.d (.slice (bcs a)), .d (.slice (bcs b))] σ K := by
  refine zgK e_r02_Same fun hl => ?_
  simp only [zoQ, iN, bT, bF, eN]
  refine gq6 ?_
  refine zad hl ?_
  exact hK
theorem c_rtLook {σ : List zb} {id : Nat} {l : List (List UInt8)} {b : List UInt8} (hT : σ[id]? = some (rtO l)) (hl0 : l.length ≤ 1048576) {K : AV → List zb → Prop}
    (hK : K (.tup [.d (.int .i64 (zpn (zdM l b))), .d (.bool (zdM l b).isSome)]) σ) : zp Tryz.prog zeD [.box id 0, .d (.slice (bcs b))] σ K := by
  refine zgK zlQ fun hl => ?_
  have hlen : (zly l).length = l.length := List.length_map ..
  have hb : σ[id]? = some (.box [.d (.slice (zly l))]) := hT
  simp only [zgT, iN, bT, bF, eN]
  refine zB l.length (fun k vs s => vs = [.d (.int .i64 k)] ∧ s = σ ∧ zdM (l.take k) b = none) ⟨rfl, rfl, rfl⟩ ?_
  rintro k vs s hk ⟨rfl, rfl, hno⟩
  by_cases hlt : k < l.length
  · have hd : decide ((k : Int) < (l.length : Int)) = true := by simp; omega
    have hx : l[k]? = some l[k] := by simp [hlt]
    have hgx := zau (f := fun b => [D.slice (bcs b)]) hx
    obtain ⟨x, hxe⟩ : ∃ x, l[k] = x := ⟨_, rfl⟩
    rw [hxe] at hx hgx
    refine gq2 (zi hlen (zi hd (zi hb hgx))) ?_
    refine c_rtSame ?_
    cases he : (x == b)
    · refine gq2 (wki k (by omega)) ?_
      exact zaP.next hlt ⟨rfl, rfl, look_next hx hno he⟩
    · rw [look_hit hx hno he] at hK
      refine gq2 (wki k (by omega)) ?_
      refine zad hl ?_
      exact hK
  · have hd : decide ((k : Int) < (l.length : Int)) = false := by simp; omega
    rw [List.take_of_length_le (by omega)] at hno
    rw [hno] at hK
    refine gq2 (zi hlen (zi hd hb)) ?_
    refine zad hl ?_
    exact hK
theorem gq7 {P Q : Prop} (h : Q) (e : Hd Q → P := by intro h; (repeat' first | simp -dsimp only [↓zex, ↓zav, ↓zbj, ↓zey, ↓zer, ↓zep, ↓zes, ↓zeq, ↓zbo, ↓zbk, ↓zbp, ↓zbl, ↓zet, ↓zbh, ↓zbq, ↓zbm, ↓zbr, ↓zbn, ↓zem, ↓zew, ↓zbg, ↓zbt, ↓zeh, ↓zeg, ↓zel, iN, bT, bF, eN, ↓zcm, ↓unC, ↓zU, ↓zE, ↓zF, ↓zK, ↓zab, ↓zaA, ↓zct, ↓zY, ↓zbd, ↓zX, ↓zj, ↓zq, ↓zbI, ↓zf, ↓zac, ↓zJ, ↓zaB, ↓zaK, ↓zd, ↓zD, ↓zn, ↓zr, ↓zal, ↓zcE, ↓zcM, ↓zak, ↓zas, ↓zaG, ↓zaM, ↓zaS, ↓zl, ↓zae, ↓zG, ↓zo, ↓zZ, zcK, zbc, zba, unA, zcS, bnd, zdq, zaa, zai, zdr, dm, dm1, zP, zaC, zdL, zdK, zT, Q0, Q1, Q2, Q3, Q4, Q5, zS, zh, zm, zw, zA, Q6, Q7, Q8, Q9, Q10, Q11, Q12, Q13, Q14, Nat.reduceAdd, Q15, Int.reduceToNat, Q16, Q17, Q18, Q19, Q20, reduceIte, Q21, Q22, zx, rep, zV, zei, toD, zaf, Q23, Q24, Q25, Q26, Q27, Q28, Nat.reduceLeDiff, Q29, Nat.reduceSub, Q30, Q31, Q32, sc, Q33, Q34, Q35, Q36, Q37, Q26, Q38, Q39, zlI, zlF, zlC, zlJ, zeI, zlG, zlD, zlH, zlE, zeH, zeJ, zlL, zlM, Bool.not_true, Bool.not_false, List.length_map, Bool.and_false, Bool.and_self, Bool.false_and, Bool.not_false, Bool.not_true, Bool.true_and, Int.toNat_natCast, Int.toNat_zero, List.drop_zero, List.length_map, List.length_nil, List.nil_append, List.take_length, Nat.sub_zero, Nat.zero_add, Option.isSome_none, Option.isSome_some, Option.map_none, Option.map_some, zaq, beq_self_eq_true, bne_self_eq_false, zbs, zbw, zpn, opA, zeU, zej, zao] | with_reducible refine zlY ?_ | fail); exact h.go) : P := e ⟨h⟩
theorem gq8 {A P Q : Prop} (a : A) (h : Q) (e : A → Hd Q → P := by intro a h; (repeat' first | simp -dsimp only [↓zex, ↓zav, ↓zbj, ↓zey, ↓zer, ↓zep, ↓zes, ↓zeq, ↓zbo, ↓zbk, ↓zbp, ↓zbl, ↓zet, ↓zbh, ↓zbq, ↓zbm, ↓zbr, ↓zbn, ↓zem, ↓zew, ↓zbg, ↓zbt, ↓zeh, ↓zeg, ↓zel, iN, bT, bF, eN, ↓zcm, ↓unC, ↓zU, ↓zE, ↓zF, ↓zK, ↓zab, ↓zaA, ↓zct, ↓zY, ↓zbd, ↓zX, ↓zj, ↓zq, ↓zbI, ↓zf, ↓zac, ↓zJ, ↓zaB, ↓zaK, ↓zd, ↓zD, ↓zn, ↓zr, ↓zal, ↓zcE, ↓zcM, ↓zak, ↓zas, ↓zaG, ↓zaM, ↓zaS, ↓zl, ↓zae, ↓zG, ↓zo, ↓zZ, zcK, zbc, zba, unA, zcS, bnd, zdq, zaa, zai, zdr, dm, dm1, zP, zaC, zdL, zdK, zT, Q0, Q1, Q2, Q3, Q4, Q5, zS, zh, zm, zw, zA, Q6, Q7, Q8, Q9, Q10, Q11, Q12, Q13, Q14, Nat.reduceAdd, Q15, Int.reduceToNat, Q16, Q17, Q18, Q19, Q20, reduceIte, Q21, Q22, zx, rep, zV, zei, toD, zaf, Q23, Q24, Q25, Q26, Q27, Q28, Nat.reduceLeDiff, Q29, Nat.reduceSub, Q30, Q31, Q32, sc, Q33, Q34, Q35, Q36, Q37, Q26, Q38, Q39, zlI, zlF, zlC, zlJ, zeI, zlG, zlD, zlH, zlE, zeH, zeJ, zlL, zlM, Bool.not_true, Bool.not_false, List.length_map, Bool.and_false, Bool.and_self, Bool.false_and, Bool.not_false, Bool.not_true, Bool.true_and, Int.toNat_natCast, Int.toNat_zero, List.drop_zero, List.length_map, List.length_nil, List.nil_append, List.take_length, Nat.sub_zero, Nat.zero_add, Option.isSome_none, Option.isSome_some, Option.map_none, Option.map_some, zaq, beq_self_eq_true, bne_self_eq_false, zbs, zbw, zpn, opA, zeU, zej, zao, a] | with_reducible refine zlY ?_ | fail); exact h.go) : P := e a ⟨h⟩
theorem c_rtSum {σ : List zb} {id : Nat} {l : List (List UInt8)} {b : List UInt8} (hT : σ[id]? = some (rtO l)) (hbl : b.length ≤ 1073741824) (hl0 : l.length ≤ 1048576) {K : AV → List zb → Prop}
    (hK : K (.d (.int .i64 (zhk l b))) (σ.set id (rtO (zjn l b)))) : zp Tryz.prog zcA [.box id 0, .d (.slice (bcs b))] σ K := by
  refine acall_ofW zhA.is rfl fun hl _ => zhA.goes ?_
  have hlen : (zly l).length = l.length := List.length_map ..
  have hb : ∀ τ, (σ ++ τ)[id]? = some (.box [.d (.slice (zly l))]) := fun τ => zk hT
  have hb0 : σ[id]? = some (.box [.d (.slice (zly l))]) := hT
  have hlt := zco hT
  simp only [zhQ, iN, bT, bF, eN]
  refine gq1 ?_
  refine c_rtLook hT hl0 ?_
  cases ho : zdM l b with
  | some k =>
    simp only [zhk, zjn, ho] at hK
    rw [zbK hT] at hK
    refine gq7 ?_
    refine zih ?_
    refine zad hl ?_
    exact hK
  | none =>
    simp only [zhk, zjn, ho] at hK
    by_cases hfull : l.length ≥ 1048576
    · rw [if_pos hfull, if_pos hfull, zbK hT] at hK
      have hd : decide ((l.length : Int) ≥ 1048576) = true := by simp; omega
      refine gq8 (zi hb0 (zi hlen hd)) ?_
      refine zih ?_
      refine zad hl ?_
      exact hK
    · rw [if_neg hfull, if_neg hfull] at hK
      have hd : decide ((l.length : Int) ≥ 1048576) = false := by simp; omega
      have s1 : ∀ X τ, (σ ++ τ).set id X = σ.set id X ++ τ := fun X τ => zbU hT
      have g1 : ∀ X τ, (σ.set id X ++ τ)[id]? = some X := fun X τ => zk (zfG hT)
      have bl : (bcs b).length = b.length := zaq b
      have b1 : ∀ e ∈ bcs b, e.length = 1 := zeb
      have t1 : ∀ e ∈ zly l, e.length = 1 := zmB (f := fun b => [D.slice (bcs b)]) (fun _ => rfl) l
      refine gq8 (zi hb (zi hb0 (zi hlen (zi hd (zi s1 (zi g1 bl)))))) ?_
      have e : zly l ++ [[D.slice (bcs b)]] = zly (l ++ [b]) := by simp [zly]
      rw [e]
      exact zoz hT (by simp [zfT, dmT, dm, dm1, zcf]) hl hK
theorem c_rgSigned {σ : List zb} {id : Nat} {g : List zM} {s : zM} (hG : σ[id]? = some (rlO g)) (hg0 : g.length ≤ 1073741824) {K : AV → List zb → Prop} (hK : K (.d (.bool (decide (s ∈ g)))) σ) :
    zp Tryz.prog zdj [.box id 0, .agg [.d (.int .i64 s.key), .d (.int .i64 s.dig)]] σ K := by
  refine zgK ziX fun hl => ?_
  have hlen : (zjD g).length = g.length := List.length_map ..
  have hb : ∀ τ, (σ ++ τ)[id]? = some (.box [.d (.slice (zjD g))]) := fun τ => zk hG
  simp only [zfs, iN, bT, bF, eN]
  refine gq1 ?_
  refine zB g.length (fun k vs q => vs = [.d (.int .i64 k)] ∧ q = σ ++ [.box [.d (.int .i64 s.key), .d (.int .i64 s.dig)]] ∧ s ∉ g.take k) ⟨rfl, rfl, by simp⟩ ?_
  rintro k vs q hk ⟨rfl, rfl, hno⟩
  by_cases hlt : k < g.length
  · have hd : decide ((k : Int) < (g.length : Int)) = true := by simp; omega
    have hx : g[k]? = some g[k] := by simp [hlt]
    have hgx := zau (f := zej) hx
    obtain ⟨x, hxe⟩ : ∃ x, g[k] = x := ⟨_, rfl⟩
    rw [hxe] at hx hgx
    by_cases he : x = s
    · subst he
      rw [decide_eq_true (List.mem_of_getElem? hx)] at hK
      refine gq8 (zi hlen (zi hd (zi hb hgx))) ?_
      refine zad hl ?_
      exact hK
    · have hn2 : s ∉ g.take (k + 1) := by
        rw [List.take_add_one, hx]; simp
        exact ⟨hno, fun h => he h.symm⟩
      have e : x = s ↔ x.key = s.key ∧ x.dig = s.dig := by cases s; cases x; simp
      cases h1 : (x.key == s.key)
      · refine gq8 (zi hlen (zi hd (zi hb (zi hgx (zi h1 (wki k (by omega))))))) ?_
        exact zaP.next hlt ⟨rfl, rfl, hn2⟩
      · have h2 : (x.dig == s.dig) = false := by
          have : ¬ x.dig = s.dig := fun h => he (e.2 ⟨by simpa using h1, h⟩)
          simpa using this
        refine gq8 (zi hlen (zi hd (zi hb (zi hgx (zi h1 (zi h2 (wki k (by omega)))))))) ?_
        exact zaP.next hlt ⟨rfl, rfl, hn2⟩
  · have hd : decide ((k : Int) < (g.length : Int)) = false := by simp; omega
    rw [List.take_of_length_le (by omega)] at hno
    rw [decide_eq_false hno] at hK
    refine gq2 (zi hlen (zi hd hb)) ?_
    refine zad hl ?_
    exact hK
theorem c_rgSign {σ : List zb} {id : Nat} {g : List zM} {k d : Int} (hG : σ[id]? = some (rlO g)) (hgl : g.length ≤ 1073741824) {K : AV → List zb → Prop}
    (hK : K (.tup [zmt (signR k d), .d (.int .i64 (zdt k d))]) (σ.set id (rlO (zfb g k d)))) : zp Tryz.prog zcF [.box id 0, .d (.int .i64 k), .d (.int .i64 d)] σ K := by
  refine acall_ofW zgi.is rfl fun hl _ => zgi.goes ?_
  have hb : ∀ τ, (σ ++ τ)[id]? = some (.box [.d (.slice (zjD g))]) := fun τ => zk hG
  have hlen : (zjD g).length = g.length := List.length_map ..
  have bad : zdt k d ≠ 0 → K (.tup [.agg [.d (.int .i64 0), .d (.int .i64 0)], .d (.int .i64 (zdt k d))]) σ := fun h => by
    rw [signR, zfb, if_neg h, if_neg h, zbK hG] at hK
    exact hK
  simp only [zgq, iN, bT, bF, eN]
  refine gq1 ?_
  cases h1 : decide (k < 0)
  · cases h2 : decide (k ≥ 21)
    · have hk : ¬ (k < 0 ∨ k ≥ 21) := by simp at h1 h2; omega
      cases h3 : decide (d < 1)
      · have he : zdt k d = 0 := by rw [zdt, if_neg hk, if_neg (by simpa using h3)]
        rw [he, signR, zfb, if_pos he, if_pos he] at hK
        refine gq2 (zi h1 (zi h2 h3)) ?_
        refine c_rgSigned (s := ⟨k, d⟩) (zk hG) hgl ?_
        by_cases hs : (⟨k, d⟩ : zM) ∈ g
        · rw [decide_eq_true hs]
          rw [znH, if_pos hs, zbK hG] at hK
          refine gq2 hb ?_
          refine zih ?_
          refine zad hl ?_
          exact hK
        · rw [decide_eq_false hs]
          rw [znH, if_neg hs] at hK
          have s1 : ∀ X τ, (σ ++ τ).set id X = σ.set id X ++ τ := fun X τ => zbU hG
          have L1 : ∀ X : zb, σ.length = (σ.set id X).length := fun X => by simp
          have e1 : ∀ X τ n, (σ.set id X ++ τ)[σ.length + n]? = τ[n]? := fun X τ n => by rw [L1 X]; exact zh ..
          have e3 : ∀ X τ W, (σ.set id X ++ τ).set σ.length W = σ.set id X ++ τ.set 0 W := fun X τ W => by rw [L1 X]; exact zA ..
          have e4 : ∀ X τ, (σ.set id X ++ τ)[σ.length]? = τ[0]? := fun X τ => by rw [L1 X]; exact zm ..
          refine gq2 (zi hb (zi hlen (zi s1 (zi e1 (zi e3 e4))))) ?_
          have e : zjD g ++ [[D.int .i64 k, D.int .i64 d]] = zjD (g ++ [⟨k, d⟩]) := by simp [zjD, zax, zej]
          refine ⟨zmB (f := zej) (fun _ => rfl) g, by simp, by omega, by simp, by omega, ?_⟩
          rw [e]
          exact zoz hG (by simp [zfT, dmT, dm, dm1, zcf, zdJ, zfU]) hl hK
      · have he : zdt k d = 1 := by rw [zdt, if_neg hk, if_pos (by simpa using h3)]
        have := bad (by rw [he]; decide)
        rw [he] at this
        refine gq2 (zi h1 (zi h2 h3)) ?_
        refine zih ?_
        refine zad hl ?_
        exact this
    · have he : zdt k d = 20 := by rw [zdt, if_pos (by simp at h2; omega)]
      have := bad (by rw [he]; decide)
      rw [he] at this
      refine gq2 (zi h1 h2) ?_
      refine zih ?_
      refine zad hl ?_
      exact this
  · have he : zdt k d = 20 := by rw [zdt, if_pos (by simp at h1; omega)]
    have := bad (by rw [he]; decide)
    rw [he] at this
    refine gq2 h1 ?_
    refine zih ?_
    refine zad hl ?_
    exact this
end Go.Proofs.YtjjchfbckfopkaaGreat
