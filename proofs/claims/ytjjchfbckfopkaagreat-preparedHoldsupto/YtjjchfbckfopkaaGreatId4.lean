/- Contracts: the document's tables and ledgers. -/
import Derived.Test.YtjjchfbckfopkaaGreatId3
set_option linter.all false
set_option maxRecDepth 100000
set_option linter.unusedSimpArgs false
set_option linter.unusedVariables false
namespace Go.Proofs.YtjjchfbckfopkaaGreat
open Go.AW

def rtO (l : List (List UInt8)) : zb := .box [.d (.slice (zmb l))]
def rlO (g : List zP) : zb := .box [.d (.slice (zke g))]
theorem zmL (n : Nat) (l : List (List UInt8)) : zql n (rtO l) := by
  intro c hc
  simp only [List.mem_cons, List.not_mem_nil, or_false] at hc
  subst hc; exact .d _
theorem zpw (n : Nat) (g : List zP) : zql n (rlO g) := by
  intro c hc
  simp only [List.mem_cons, List.not_mem_nil, or_false] at hc
  subst hc; exact .d _
theorem wki (k : Nat) (h : k ≤ 1073741824) : IntKind.i64.wrap ((k : Int) + 1) = ((k + 1 : Nat) : Int) := by rw [zap (by omega) (by omega)]; rfl
theorem gq6 {P Q : Prop} (h : Q) (e : Hd Q → P := by intro h; (repeat' first | simp -dsimp only [↓zek, ↓zar, ↓zbg, ↓zel, ↓zef, ↓zed, ↓zeg, ↓zee, ↓zbl, ↓zbh, ↓zbm, ↓zbi, ↓zeh, ↓zbe, ↓zbn, ↓zbj, ↓zbo, ↓zbk, ↓zec, ↓zej, ↓zbd, ↓zbp, ↓zdW, ↓zdV, ↓zea, iN, bT, bF, eN, ↓zci, ↓unC, ↓zS, ↓zE, ↓zF, ↓zJ, ↓zZ, ↓zaD, ↓zcj, ↓zab, ↓zbr, ↓zU, ↓zl, ↓zo, ↓zbz, ↓zg, ↓zad, ↓zI, ↓zaz, ↓zaJ, ↓zc, ↓zB, ↓zn, ↓zq, ↓zaj, ↓zcB, ↓zcE, ↓zah, ↓zao, ↓zaA, ↓zaO, ↓zaT, ↓zm, ↓zae, ↓zG, ↓zp, ↓zY, zcD, zaV, zaU, unA, zcK, bnd, zcZ, zaa, zag, zdh, dm, dm1, zM, zau, zdy, zdx, zT, Q0, Q1, Q2, Q3, Q4, Q5, zR, zi, zk, zu, zy, Q6, Q7, Q8, Q9, Q10, Q11, Q12, Q13, Q14, Nat.reduceAdd, Q15, Int.reduceToNat, Q16, Q17, Q18, Q19, Q20, reduceIte, Q21, Q22, zA, rep, zV, zdX, toD, zaf, Q23, Q24, Q25, Q26, Q27, Q28, Nat.reduceLeDiff, Q29, Nat.reduceSub, Q30, Q31, Q32, sc, Q33, Q34, Q35, Q36, Q37, Q26, Q38, Q39, zjZ, zjW, zjT, zka, zdJ, zjX, zjU, zjY, zjV, zdI, zdK, zkf, zkg, Bool.not_true, Bool.not_false, List.length_map, Bool.and_false, Bool.and_self, Bool.false_and, Bool.not_false, Bool.not_true, Bool.true_and, Int.toNat_natCast, Int.toNat_zero, List.drop_zero, List.length_map, List.length_nil, List.nil_append, List.take_length, Nat.sub_zero, Nat.zero_add, Option.isSome_none, Option.isSome_some, Option.map_none, Option.map_some, zav, beq_self_eq_true, bne_self_eq_false, zfz, zcL, zcU, zaA, mgetR, zaO] | with_reducible refine zkw ?_ | fail); exact h.go) : P := e ⟨h⟩
theorem c_rtSame {σ : List zb} {a b : List UInt8} {K : AV → List zb → Prop} (hK : K (.d (.bool (a == b))) σ) : zt Tryz.prog zkR [.d (.slice (bcs a)), .d (.slice (bcs b))] σ K := by
  refine zhh e_r02_Same fun hl => ?_
  simp only [zpf, iN, bT, bF, eN]
  refine gq6 ?_
  refine zam hl ?_
  exact hK
theorem c_rtLook {σ : List zb} {id : Nat} {l : List (List UInt8)} {b : List UInt8} (hT : σ[id]? = some (rtO l)) (hl0 : l.length ≤ 1048576) {K : AV → List zb → Prop}
    (hK : K (.tup [.d (.int .i64 (numOf (zeb l b))), .d (.bool (zeb l b).isSome)]) σ) : zt Tryz.prog zeQ [.box id 0, .d (.slice (bcs b))] σ K := by
  refine zhh zmi fun hl => ?_
  have hlen : (zmb l).length = l.length := List.length_map ..
  have hb : σ[id]? = some (.box [.d (.slice (zmb l))]) := hT
  simp only [zhk, iN, bT, bF, eN]
  refine zC l.length (fun k vs s => vs = [.d (.int .i64 k)] ∧ s = σ ∧ zeb (l.take k) b = none) ⟨rfl, rfl, rfl⟩ ?_
  rintro k vs s hk ⟨rfl, rfl, hno⟩
  by_cases hlt : k < l.length
  · have hd : decide ((k : Int) < (l.length : Int)) = true := by simp; omega
    have hx : l[k]? = some l[k] := by simp [hlt]
    have hgx := zax (f := fun b => [D.slice (bcs b)]) hx
    obtain ⟨x, hxe⟩ : ∃ x, l[k] = x := ⟨_, rfl⟩
    rw [hxe] at hx hgx
    refine gq2 (zj hlen (zj hd (zj hb hgx))) ?_
    refine c_rtSame ?_
    cases he : (x == b)
    · refine gq2 (wki k (by omega)) ?_
      exact zaQ.next hlt ⟨rfl, rfl, look_next hx hno he⟩
    · rw [look_hit hx hno he] at hK
      refine gq2 (wki k (by omega)) ?_
      refine zam hl ?_
      exact hK
  · have hd : decide ((k : Int) < (l.length : Int)) = false := by simp; omega
    rw [List.take_of_length_le (by omega)] at hno
    rw [hno] at hK
    refine gq2 (zj hlen (zj hd hb)) ?_
    refine zam hl ?_
    exact hK
theorem gq7 {P Q : Prop} (h : Q) (e : Hd Q → P := by intro h; (repeat' first | simp -dsimp only [↓zek, ↓zar, ↓zbg, ↓zel, ↓zef, ↓zed, ↓zeg, ↓zee, ↓zbl, ↓zbh, ↓zbm, ↓zbi, ↓zeh, ↓zbe, ↓zbn, ↓zbj, ↓zbo, ↓zbk, ↓zec, ↓zej, ↓zbd, ↓zbp, ↓zdW, ↓zdV, ↓zea, iN, bT, bF, eN, ↓zci, ↓unC, ↓zS, ↓zE, ↓zF, ↓zJ, ↓zZ, ↓zaD, ↓zcj, ↓zab, ↓zbr, ↓zU, ↓zl, ↓zo, ↓zbz, ↓zg, ↓zad, ↓zI, ↓zaz, ↓zaJ, ↓zc, ↓zB, ↓zn, ↓zq, ↓zaj, ↓zcB, ↓zcE, ↓zah, ↓zao, ↓zaA, ↓zaO, ↓zaT, ↓zm, ↓zae, ↓zG, ↓zp, ↓zY, zcD, zaV, zaU, unA, zcK, bnd, zcZ, zaa, zag, zdh, dm, dm1, zM, zau, zdy, zdx, zT, Q0, Q1, Q2, Q3, Q4, Q5, zR, zi, zk, zu, zy, Q6, Q7, Q8, Q9, Q10, Q11, Q12, Q13, Q14, Nat.reduceAdd, Q15, Int.reduceToNat, Q16, Q17, Q18, Q19, Q20, reduceIte, Q21, Q22, zA, rep, zV, zdX, toD, zaf, Q23, Q24, Q25, Q26, Q27, Q28, Nat.reduceLeDiff, Q29, Nat.reduceSub, Q30, Q31, Q32, sc, Q33, Q34, Q35, Q36, Q37, Q26, Q38, Q39, zjZ, zjW, zjT, zka, zdJ, zjX, zjU, zjY, zjV, zdI, zdK, zkf, zkg, Bool.not_true, Bool.not_false, List.length_map, Bool.and_false, Bool.and_self, Bool.false_and, Bool.not_false, Bool.not_true, Bool.true_and, Int.toNat_natCast, Int.toNat_zero, List.drop_zero, List.length_map, List.length_nil, List.nil_append, List.take_length, Nat.sub_zero, Nat.zero_add, Option.isSome_none, Option.isSome_some, Option.map_none, Option.map_some, zav, beq_self_eq_true, bne_self_eq_false, zbC, zbE, numOf, opA, zdY, zfn, zas] | with_reducible refine zkw ?_ | fail); exact h.go) : P := e ⟨h⟩
theorem gq8 {A P Q : Prop} (a : A) (h : Q) (e : A → Hd Q → P := by intro a h; (repeat' first | simp -dsimp only [↓zek, ↓zar, ↓zbg, ↓zel, ↓zef, ↓zed, ↓zeg, ↓zee, ↓zbl, ↓zbh, ↓zbm, ↓zbi, ↓zeh, ↓zbe, ↓zbn, ↓zbj, ↓zbo, ↓zbk, ↓zec, ↓zej, ↓zbd, ↓zbp, ↓zdW, ↓zdV, ↓zea, iN, bT, bF, eN, ↓zci, ↓unC, ↓zS, ↓zE, ↓zF, ↓zJ, ↓zZ, ↓zaD, ↓zcj, ↓zab, ↓zbr, ↓zU, ↓zl, ↓zo, ↓zbz, ↓zg, ↓zad, ↓zI, ↓zaz, ↓zaJ, ↓zc, ↓zB, ↓zn, ↓zq, ↓zaj, ↓zcB, ↓zcE, ↓zah, ↓zao, ↓zaA, ↓zaO, ↓zaT, ↓zm, ↓zae, ↓zG, ↓zp, ↓zY, zcD, zaV, zaU, unA, zcK, bnd, zcZ, zaa, zag, zdh, dm, dm1, zM, zau, zdy, zdx, zT, Q0, Q1, Q2, Q3, Q4, Q5, zR, zi, zk, zu, zy, Q6, Q7, Q8, Q9, Q10, Q11, Q12, Q13, Q14, Nat.reduceAdd, Q15, Int.reduceToNat, Q16, Q17, Q18, Q19, Q20, reduceIte, Q21, Q22, zA, rep, zV, zdX, toD, zaf, Q23, Q24, Q25, Q26, Q27, Q28, Nat.reduceLeDiff, Q29, Nat.reduceSub, Q30, Q31, Q32, sc, Q33, Q34, Q35, Q36, Q37, Q26, Q38, Q39, zjZ, zjW, zjT, zka, zdJ, zjX, zjU, zjY, zjV, zdI, zdK, zkf, zkg, Bool.not_true, Bool.not_false, List.length_map, Bool.and_false, Bool.and_self, Bool.false_and, Bool.not_false, Bool.not_true, Bool.true_and, Int.toNat_natCast, Int.toNat_zero, List.drop_zero, List.length_map, List.length_nil, List.nil_append, List.take_length, Nat.sub_zero, Nat.zero_add, Option.isSome_none, Option.isSome_some, Option.map_none, Option.map_some, zav, beq_self_eq_true, bne_self_eq_false, zbC, zbE, numOf, opA, zdY, zfn, zas, a] | with_reducible refine zkw ?_ | fail); exact h.go) : P := e a ⟨h⟩
theorem c_rtSum {σ : List zb} {id : Nat} {l : List (List UInt8)} {b : List UInt8} (hT : σ[id]? = some (rtO l)) (hbl : b.length ≤ 1073741824) (hl0 : l.length ≤ 1048576) {K : AV → List zb → Prop}
    (hK : K (.d (.int .i64 (zhz l b))) (σ.set id (rtO (zjJ l b)))) : zt Tryz.prog zcI [.box id 0, .d (.slice (bcs b))] σ K := by
  refine acall_ofW zhP.is rfl fun hl _ => zhP.goes ?_
  have hlen : (zmb l).length = l.length := List.length_map ..
  have hb : ∀ τ, (σ ++ τ)[id]? = some (.box [.d (.slice (zmb l))]) := fun τ => ze hT
  have hb0 : σ[id]? = some (.box [.d (.slice (zmb l))]) := hT
  have hlt := zaP hT
  simp only [zif, iN, bT, bF, eN]
  refine gq1 ?_
  refine c_rtLook hT hl0 ?_
  cases ho : zeb l b with
  | some k =>
    simp only [zhz, zjJ, ho] at hK
    rw [zbN hT] at hK
    refine gq7 ?_
    refine zix ?_
    refine zam hl ?_
    exact hK
  | none =>
    simp only [zhz, zjJ, ho] at hK
    by_cases hfull : l.length ≥ 1048576
    · rw [if_pos hfull, if_pos hfull, zbN hT] at hK
      have hd : decide ((l.length : Int) ≥ 1048576) = true := by simp; omega
      refine gq8 (zj hb0 (zj hlen hd)) ?_
      refine zix ?_
      refine zam hl ?_
      exact hK
    · rw [if_neg hfull, if_neg hfull] at hK
      have hd : decide ((l.length : Int) ≥ 1048576) = false := by simp; omega
      have s1 : ∀ X τ, (σ ++ τ).set id X = σ.set id X ++ τ := fun X τ => zbX hT
      have g1 : ∀ X τ, (σ.set id X ++ τ)[id]? = some X := fun X τ => ze (zfU hT)
      have bl : (bcs b).length = b.length := zav b
      have b1 : ∀ e ∈ bcs b, e.length = 1 := zex
      have t1 : ∀ e ∈ zmb l, e.length = 1 := zmS (f := fun b => [D.slice (bcs b)]) (fun _ => rfl) l
      refine gq8 (zj hb (zj hb0 (zj hlen (zj hd (zj s1 (zj g1 bl)))))) ?_
      have e : zmb l ++ [[D.slice (bcs b)]] = zmb (l ++ [b]) := by simp [zmb]
      rw [e]
      exact zoP hT (by simp [zgi, dmT, dm, dm1, zck]) hl hK
theorem c_rgSigned {σ : List zb} {id : Nat} {g : List zP} {s : zP} (hG : σ[id]? = some (rlO g)) (hg0 : g.length ≤ 1073741824) {K : AV → List zb → Prop} (hK : K (.d (.bool (decide (s ∈ g)))) σ) :
    zt Tryz.prog zdq [.box id 0, .agg [.d (.int .i64 s.key), .d (.int .i64 s.dig)]] σ K := by
  refine zhh zjs fun hl => ?_
  have hlen : (zke g).length = g.length := List.length_map ..
  have hb : ∀ τ, (σ ++ τ)[id]? = some (.box [.d (.slice (zke g))]) := fun τ => ze hG
  simp only [zfD, iN, bT, bF, eN]
  refine gq1 ?_
  refine zC g.length (fun k vs q => vs = [.d (.int .i64 k)] ∧ q = σ ++ [.box [.d (.int .i64 s.key), .d (.int .i64 s.dig)]] ∧ s ∉ g.take k) ⟨rfl, rfl, by simp⟩ ?_
  rintro k vs q hk ⟨rfl, rfl, hno⟩
  by_cases hlt : k < g.length
  · have hd : decide ((k : Int) < (g.length : Int)) = true := by simp; omega
    have hx : g[k]? = some g[k] := by simp [hlt]
    have hgx := zax (f := zfn) hx
    obtain ⟨x, hxe⟩ : ∃ x, g[k] = x := ⟨_, rfl⟩
    rw [hxe] at hx hgx
    by_cases he : x = s
    · subst he
      rw [decide_eq_true (List.mem_of_getElem? hx)] at hK
      refine gq8 (zj hlen (zj hd (zj hb hgx))) ?_
      refine zam hl ?_
      exact hK
    · have hn2 : s ∉ g.take (k + 1) := by
        rw [List.take_add_one, hx]; simp
        exact ⟨hno, fun h => he h.symm⟩
      have e : x = s ↔ x.key = s.key ∧ x.dig = s.dig := by cases s; cases x; simp
      cases h1 : (x.key == s.key)
      · refine gq8 (zj hlen (zj hd (zj hb (zj hgx (zj h1 (wki k (by omega))))))) ?_
        exact zaQ.next hlt ⟨rfl, rfl, hn2⟩
      · have h2 : (x.dig == s.dig) = false := by
          have : ¬ x.dig = s.dig := fun h => he (e.2 ⟨by simpa using h1, h⟩)
          simpa using this
        refine gq8 (zj hlen (zj hd (zj hb (zj hgx (zj h1 (zj h2 (wki k (by omega)))))))) ?_
        exact zaQ.next hlt ⟨rfl, rfl, hn2⟩
  · have hd : decide ((k : Int) < (g.length : Int)) = false := by simp; omega
    rw [List.take_of_length_le (by omega)] at hno
    rw [decide_eq_false hno] at hK
    refine gq2 (zj hlen (zj hd hb)) ?_
    refine zam hl ?_
    exact hK
theorem c_rgSign {σ : List zb} {id : Nat} {g : List zP} {k d : Int} (hG : σ[id]? = some (rlO g)) (hgl : g.length ≤ 1073741824) {K : AV → List zb → Prop}
    (hK : K (.tup [zmK (signR k d), .d (.int .i64 (zdC k d))]) (σ.set id (rlO (zfm g k d)))) : zt Tryz.prog zcO [.box id 0, .d (.int .i64 k), .d (.int .i64 d)] σ K := by
  refine acall_ofW zgv.is rfl fun hl _ => zgv.goes ?_
  have hb : ∀ τ, (σ ++ τ)[id]? = some (.box [.d (.slice (zke g))]) := fun τ => ze hG
  have hlen : (zke g).length = g.length := List.length_map ..
  have bad : zdC k d ≠ 0 → K (.tup [.agg [.d (.int .i64 0), .d (.int .i64 0)], .d (.int .i64 (zdC k d))]) σ := fun h => by
    rw [signR, zfm, if_neg h, if_neg h, zbN hG] at hK
    exact hK
  simp only [zgF, iN, bT, bF, eN]
  refine gq1 ?_
  cases h1 : decide (k < 0)
  · cases h2 : decide (k ≥ 21)
    · have hk : ¬ (k < 0 ∨ k ≥ 21) := by simp at h1 h2; omega
      cases h3 : decide (d < 1)
      · have he : zdC k d = 0 := by rw [zdC, if_neg hk, if_neg (by simpa using h3)]
        rw [he, signR, zfm, if_pos he, if_pos he] at hK
        refine gq2 (zj h1 (zj h2 h3)) ?_
        refine c_rgSigned (s := ⟨k, d⟩) (ze hG) hgl ?_
        by_cases hs : (⟨k, d⟩ : zP) ∈ g
        · rw [decide_eq_true hs]
          rw [znX, if_pos hs, zbN hG] at hK
          refine gq2 hb ?_
          refine zix ?_
          refine zam hl ?_
          exact hK
        · rw [decide_eq_false hs]
          rw [znX, if_neg hs] at hK
          have s1 : ∀ X τ, (σ ++ τ).set id X = σ.set id X ++ τ := fun X τ => zbX hG
          have L1 : ∀ X : zb, σ.length = (σ.set id X).length := fun X => by simp
          have e1 : ∀ X τ n, (σ.set id X ++ τ)[σ.length + n]? = τ[n]? := fun X τ n => by rw [L1 X]; exact zi ..
          have e3 : ∀ X τ W, (σ.set id X ++ τ).set σ.length W = σ.set id X ++ τ.set 0 W := fun X τ W => by rw [L1 X]; exact zy ..
          have e4 : ∀ X τ, (σ.set id X ++ τ)[σ.length]? = τ[0]? := fun X τ => by rw [L1 X]; exact zk ..
          refine gq2 (zj hb (zj hlen (zj s1 (zj e1 (zj e3 e4))))) ?_
          have e : zke g ++ [[D.int .i64 k, D.int .i64 d]] = zke (g ++ [⟨k, d⟩]) := by simp [zke, zaB, zfn]
          refine ⟨zmS (f := zfn) (fun _ => rfl) g, by simp, by omega, by simp, by omega, ?_⟩
          rw [e]
          exact zoP hG (by simp [zgi, dmT, dm, dm1, zck, zdU, zgj]) hl hK
      · have he : zdC k d = 1 := by rw [zdC, if_neg hk, if_pos (by simpa using h3)]
        have := bad (by rw [he]; decide)
        rw [he] at this
        refine gq2 (zj h1 (zj h2 h3)) ?_
        refine zix ?_
        refine zam hl ?_
        exact this
    · have he : zdC k d = 20 := by rw [zdC, if_pos (by simp at h2; omega)]
      have := bad (by rw [he]; decide)
      rw [he] at this
      refine gq2 (zj h1 h2) ?_
      refine zix ?_
      refine zam hl ?_
      exact this
  · have he : zdC k d = 20 := by rw [zdC, if_pos (by simp at h1; omega)]
    have := bad (by rw [he]; decide)
    rw [he] at this
    refine gq2 h1 ?_
    refine zix ?_
    refine zam hl ?_
    exact this
end Go.Proofs.YtjjchfbckfopkaaGreat
