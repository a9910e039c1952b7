/- Contracts: the document's tables and ledgers. -/
import Derived.Test.YtjjchfbckfopkaaGreatId3
set_option linter.all false
set_option maxRecDepth 100000
set_option linter.unusedSimpArgs false
set_option linter.unusedVariables false
namespace Go.Proofs.YtjjchfbckfopkaaGreat
open Go.AW

def rtO (l : List (List UInt8)) : zb := .box [.d (.slice (zkV l))]
def rlO (g : List zO) : zb := .box [.d (.slice (ziS g))]
theorem zlz (n : Nat) (l : List (List UInt8)) : zoO n (rtO l) := by
  intro c hc
  simp only [List.mem_cons, List.not_mem_nil, or_false] at hc
  subst hc; exact .d _
theorem zoa (n : Nat) (g : List zO) : zoO n (rlO g) := by
  intro c hc
  simp only [List.mem_cons, List.not_mem_nil, or_false] at hc
  subst hc; exact .d _
theorem wki (k : Nat) (h : k ≤ 1073741824) : IntKind.i64.wrap ((k : Int) + 1) = ((k + 1 : Nat) : Int) := by rw [zao (by omega) (by omega)]; rfl
theorem gq6 {P Q : Prop} (h : Q) (e : Hd Q → P := by intro h; (repeat' first | simp -dsimp only [↓zem, ↓zas, ↓zbe, ↓zen, ↓zeg, ↓zee, ↓zeh, ↓zef, ↓zbj, ↓zbf, ↓zbk, ↓zbg, ↓zei, ↓zbd, ↓zbl, ↓zbh, ↓zbm, ↓zbi, ↓zec, ↓zel, ↓zbc, ↓zbo, ↓zdY, ↓zdX, ↓zeb, iN, bT, bF, eN, ↓zcx, ↓unC, ↓zU, ↓zE, ↓zF, ↓zI, ↓zaa, ↓zaE, ↓zco, ↓zZ, ↓zbw, ↓zQ, ↓zl, ↓zm, ↓zbF, ↓zf, ↓zab, ↓zK, ↓zay, ↓zaD, ↓zc, ↓zy, ↓zi, ↓zr, ↓zai, ↓zcz, ↓zcG, ↓zal, ↓zap, ↓zax, ↓zaG, ↓zaN, ↓zj, ↓zad, ↓zG, ↓zq, ↓zX, zcE, zaZ, zaW, unA, zcH, bnd, zdj, zY, zac, zdk, dm, dm1, zJ, zar, zdD, zdC, zT, Q0, Q1, Q2, Q3, Q4, Q5, zS, zg, zp, zu, zC, Q6, Q7, Q8, Q9, Q10, Q11, Q12, Q13, Q14, Nat.reduceAdd, Q15, Int.reduceToNat, Q16, Q17, Q18, Q19, Q20, reduceIte, Q21, Q22, zA, rep, zV, zdZ, toD, zaj, Q23, Q24, Q25, Q26, Q27, Q28, Nat.reduceLeDiff, Q29, Nat.reduceSub, Q30, Q31, Q32, sc, Q33, Q34, Q35, Q36, Q37, Q26, Q38, Q39, zjL, zjI, zjF, zjM, zdO, zjJ, zjG, zjK, zjH, zdN, zdP, zjT, zjU, Bool.not_true, Bool.not_false, List.length_map, Bool.and_false, Bool.and_self, Bool.false_and, Bool.not_false, Bool.not_true, Bool.true_and, Int.toNat_natCast, Int.toNat_zero, List.drop_zero, List.length_map, List.length_nil, List.nil_append, List.take_length, Nat.sub_zero, Nat.zero_add, Option.isSome_none, Option.isSome_some, Option.map_none, Option.map_some, zaq, beq_self_eq_true, bne_self_eq_false, zgq, zcv, zcR, zax, mgetR, zaG] | with_reducible refine zkm ?_ | fail); exact h.go) : P := e ⟨h⟩
theorem c_rtSame {σ : List zb} {a b : List UInt8} {K : AV → List zb → Prop} (hK : K (.d (.bool (a == b))) σ) : zn Tryz.prog zjz [.d (.slice (bcs a)), .d (.slice (bcs b))] σ K := by
  refine zia e_r02_Same fun hl => ?_
  simp only [znK, iN, bT, bF, eN]
  refine gq6 ?_
  refine zam hl ?_
  exact hK
theorem c_rtLook {σ : List zb} {id : Nat} {l : List (List UInt8)} {b : List UInt8} (hT : σ[id]? = some (rtO l)) (hl0 : l.length ≤ 1048576) {K : AV → List zb → Prop}
    (hK : K (.tup [.d (.int .i64 (numOf (zdE l b))), .d (.bool (zdE l b).isSome)]) σ) : zn Tryz.prog zev [.box id 0, .d (.slice (bcs b))] σ K := by
  refine zia zlb fun hl => ?_
  have hlen : (zkV l).length = l.length := List.length_map ..
  have hb : σ[id]? = some (.box [.d (.slice (zkV l))]) := hT
  simp only [zgy, iN, bT, bF, eN]
  refine zR l.length (fun k vs s => vs = [.d (.int .i64 k)] ∧ s = σ ∧ zdE (l.take k) b = none) ⟨rfl, rfl, rfl⟩ ?_
  rintro k vs s hk ⟨rfl, rfl, hno⟩
  by_cases hlt : k < l.length
  · have hd : decide ((k : Int) < (l.length : Int)) = true := by simp; omega
    have hx : l[k]? = some l[k] := by simp [hlt]
    have hgx := zaT (f := fun b => [D.slice (bcs b)]) hx
    obtain ⟨x, hxe⟩ : ∃ x, l[k] = x := ⟨_, rfl⟩
    rw [hxe] at hx hgx
    refine gq2 (zo hlen (zo hd (zo hb hgx))) ?_
    refine c_rtSame ?_
    cases he : (x == b)
    · refine gq2 (wki k (by omega)) ?_
      exact zbq.next hlt ⟨rfl, rfl, look_next hx hno he⟩
    · rw [look_hit hx hno he] at hK
      refine gq2 (wki k (by omega)) ?_
      refine zam hl ?_
      exact hK
  · have hd : decide ((k : Int) < (l.length : Int)) = false := by simp; omega
    rw [List.take_of_length_le (by omega)] at hno
    rw [hno] at hK
    refine gq2 (zo hlen (zo hd hb)) ?_
    refine zam hl ?_
    exact hK
theorem gq7 {P Q : Prop} (h : Q) (e : Hd Q → P := by intro h; (repeat' first | simp -dsimp only [↓zem, ↓zas, ↓zbe, ↓zen, ↓zeg, ↓zee, ↓zeh, ↓zef, ↓zbj, ↓zbf, ↓zbk, ↓zbg, ↓zei, ↓zbd, ↓zbl, ↓zbh, ↓zbm, ↓zbi, ↓zec, ↓zel, ↓zbc, ↓zbo, ↓zdY, ↓zdX, ↓zeb, iN, bT, bF, eN, ↓zcx, ↓unC, ↓zU, ↓zE, ↓zF, ↓zI, ↓zaa, ↓zaE, ↓zco, ↓zZ, ↓zbw, ↓zQ, ↓zl, ↓zm, ↓zbF, ↓zf, ↓zab, ↓zK, ↓zay, ↓zaD, ↓zc, ↓zy, ↓zi, ↓zr, ↓zai, ↓zcz, ↓zcG, ↓zal, ↓zap, ↓zax, ↓zaG, ↓zaN, ↓zj, ↓zad, ↓zG, ↓zq, ↓zX, zcE, zaZ, zaW, unA, zcH, bnd, zdj, zY, zac, zdk, dm, dm1, zJ, zar, zdD, zdC, zT, Q0, Q1, Q2, Q3, Q4, Q5, zS, zg, zp, zu, zC, Q6, Q7, Q8, Q9, Q10, Q11, Q12, Q13, Q14, Nat.reduceAdd, Q15, Int.reduceToNat, Q16, Q17, Q18, Q19, Q20, reduceIte, Q21, Q22, zA, rep, zV, zdZ, toD, zaj, Q23, Q24, Q25, Q26, Q27, Q28, Nat.reduceLeDiff, Q29, Nat.reduceSub, Q30, Q31, Q32, sc, Q33, Q34, Q35, Q36, Q37, Q26, Q38, Q39, zjL, zjI, zjF, zjM, zdO, zjJ, zjG, zjK, zjH, zdN, zdP, zjT, zjU, Bool.not_true, Bool.not_false, List.length_map, Bool.and_false, Bool.and_self, Bool.false_and, Bool.not_false, Bool.not_true, Bool.true_and, Int.toNat_natCast, Int.toNat_zero, List.drop_zero, List.length_map, List.length_nil, List.nil_append, List.take_length, Nat.sub_zero, Nat.zero_add, Option.isSome_none, Option.isSome_some, Option.map_none, Option.map_some, zaq, beq_self_eq_true, bne_self_eq_false, zbu, zbC, numOf, opA, prepD, zgb, zaK] | with_reducible refine zkm ?_ | fail); exact h.go) : P := e ⟨h⟩
theorem gq8 {A P Q : Prop} (a : A) (h : Q) (e : A → Hd Q → P := by intro a h; (repeat' first | simp -dsimp only [↓zem, ↓zas, ↓zbe, ↓zen, ↓zeg, ↓zee, ↓zeh, ↓zef, ↓zbj, ↓zbf, ↓zbk, ↓zbg, ↓zei, ↓zbd, ↓zbl, ↓zbh, ↓zbm, ↓zbi, ↓zec, ↓zel, ↓zbc, ↓zbo, ↓zdY, ↓zdX, ↓zeb, iN, bT, bF, eN, ↓zcx, ↓unC, ↓zU, ↓zE, ↓zF, ↓zI, ↓zaa, ↓zaE, ↓zco, ↓zZ, ↓zbw, ↓zQ, ↓zl, ↓zm, ↓zbF, ↓zf, ↓zab, ↓zK, ↓zay, ↓zaD, ↓zc, ↓zy, ↓zi, ↓zr, ↓zai, ↓zcz, ↓zcG, ↓zal, ↓zap, ↓zax, ↓zaG, ↓zaN, ↓zj, ↓zad, ↓zG, ↓zq, ↓zX, zcE, zaZ, zaW, unA, zcH, bnd, zdj, zY, zac, zdk, dm, dm1, zJ, zar, zdD, zdC, zT, Q0, Q1, Q2, Q3, Q4, Q5, zS, zg, zp, zu, zC, Q6, Q7, Q8, Q9, Q10, Q11, Q12, Q13, Q14, Nat.reduceAdd, Q15, Int.reduceToNat, Q16, Q17, Q18, Q19, Q20, reduceIte, Q21, Q22, zA, rep, zV, zdZ, toD, zaj, Q23, Q24, Q25, Q26, Q27, Q28, Nat.reduceLeDiff, Q29, Nat.reduceSub, Q30, Q31, Q32, sc, Q33, Q34, Q35, Q36, Q37, Q26, Q38, Q39, zjL, zjI, zjF, zjM, zdO, zjJ, zjG, zjK, zjH, zdN, zdP, zjT, zjU, Bool.not_true, Bool.not_false, List.length_map, Bool.and_false, Bool.and_self, Bool.false_and, Bool.not_false, Bool.not_true, Bool.true_and, Int.toNat_natCast, Int.toNat_zero, List.drop_zero, List.length_map, List.length_nil, List.nil_append, List.take_length, Nat.sub_zero, Nat.zero_add, Option.isSome_none, Option.isSome_some, Option.map_none, Option.map_some, zaq, beq_self_eq_true, bne_self_eq_false, zbu, zbC, numOf, opA, prepD, zgb, zaK, a] | with_reducible refine zkm ?_ | fail); exact h.go) : P := e a ⟨h⟩
theorem c_rtSum {σ : List zb} {id : Nat} {l : List (List UInt8)} {b : List UInt8} (hT : σ[id]? = some (rtO l)) (hbl : b.length ≤ 1073741824) (hl0 : l.length ≤ 1048576) {K : AV → List zb → Prop}
    (hK : K (.d (.int .i64 (zgO l b))) (σ.set id (rtO (ziG l b)))) : zn Tryz.prog zcs [.box id 0, .d (.slice (bcs b))] σ K := by
  refine acall_ofW zhd.is rfl fun hl _ => zhd.goes ?_
  have hlen : (zkV l).length = l.length := List.length_map ..
  have hb : ∀ τ, (σ ++ τ)[id]? = some (.box [.d (.slice (zkV l))]) := fun τ => zk hT
  have hb0 : σ[id]? = some (.box [.d (.slice (zkV l))]) := hT
  have hlt := zdt hT
  simp only [zhs, iN, bT, bF, eN]
  refine gq1 ?_
  refine c_rtLook hT hl0 ?_
  cases ho : zdE l b with
  | some k =>
    simp only [zgO, ziG, ho] at hK
    rw [zbH hT] at hK
    refine gq7 ?_
    refine zhH ?_
    refine zam hl ?_
    exact hK
  | none =>
    simp only [zgO, ziG, ho] at hK
    by_cases hfull : l.length ≥ 1048576
    · rw [if_pos hfull, if_pos hfull, zbH hT] at hK
      have hd : decide ((l.length : Int) ≥ 1048576) = true := by simp; omega
      refine gq8 (zo hb0 (zo hlen hd)) ?_
      refine zhH ?_
      refine zam hl ?_
      exact hK
    · rw [if_neg hfull, if_neg hfull] at hK
      have hd : decide ((l.length : Int) ≥ 1048576) = false := by simp; omega
      have s1 : ∀ X τ, (σ ++ τ).set id X = σ.set id X ++ τ := fun X τ => zbR hT
      have g1 : ∀ X τ, (σ.set id X ++ τ)[id]? = some X := fun X τ => zk (zfo hT)
      have bl : (bcs b).length = b.length := zaq b
      have b1 : ∀ e ∈ bcs b, e.length = 1 := zdR
      have t1 : ∀ e ∈ zkV l, e.length = 1 := zog (f := fun b => [D.slice (bcs b)]) (fun _ => rfl) l
      refine gq8 (zo hb (zo hb0 (zo hlen (zo hd (zo s1 (zo g1 bl)))))) ?_
      have e : zkV l ++ [[D.slice (bcs b)]] = zkV (l ++ [b]) := by simp [zkV]
      rw [e]
      exact znw hT (by simp [zfj, dmT, dm, dm1, zcm]) hl hK
theorem c_rgSigned {σ : List zb} {id : Nat} {g : List zO} {s : zO} (hG : σ[id]? = some (rlO g)) (hg0 : g.length ≤ 1073741824) {K : AV → List zb → Prop} (hK : K (.d (.bool (decide (s ∈ g)))) σ) :
    zn Tryz.prog zda [.box id 0, .agg [.d (.int .i64 s.key), .d (.int .i64 s.dig)]] σ K := by
  refine zia zis fun hl => ?_
  have hlen : (ziS g).length = g.length := List.length_map ..
  have hb : ∀ τ, (σ ++ τ)[id]? = some (.box [.d (.slice (ziS g))]) := fun τ => zk hG
  simp only [zfd, iN, bT, bF, eN]
  refine gq1 ?_
  refine zR g.length (fun k vs q => vs = [.d (.int .i64 k)] ∧ q = σ ++ [.box [.d (.int .i64 s.key), .d (.int .i64 s.dig)]] ∧ s ∉ g.take k) ⟨rfl, rfl, by simp⟩ ?_
  rintro k vs q hk ⟨rfl, rfl, hno⟩
  by_cases hlt : k < g.length
  · have hd : decide ((k : Int) < (g.length : Int)) = true := by simp; omega
    have hx : g[k]? = some g[k] := by simp [hlt]
    have hgx := zaT (f := zgb) hx
    obtain ⟨x, hxe⟩ : ∃ x, g[k] = x := ⟨_, rfl⟩
    rw [hxe] at hx hgx
    by_cases he : x = s
    · subst he
      rw [decide_eq_true (List.mem_of_getElem? hx)] at hK
      refine gq8 (zo hlen (zo hd (zo hb hgx))) ?_
      refine zam hl ?_
      exact hK
    · have hn2 : s ∉ g.take (k + 1) := by
        rw [List.take_add_one, hx]; simp
        exact ⟨hno, fun h => he h.symm⟩
      have e : x = s ↔ x.key = s.key ∧ x.dig = s.dig := by cases s; cases x; simp
      cases h1 : (x.key == s.key)
      · refine gq8 (zo hlen (zo hd (zo hb (zo hgx (zo h1 (wki k (by omega))))))) ?_
        exact zbq.next hlt ⟨rfl, rfl, hn2⟩
      · have h2 : (x.dig == s.dig) = false := by
          have : ¬ x.dig = s.dig := fun h => he (e.2 ⟨by simpa using h1, h⟩)
          simpa using this
        refine gq8 (zo hlen (zo hd (zo hb (zo hgx (zo h1 (zo h2 (wki k (by omega)))))))) ?_
        exact zbq.next hlt ⟨rfl, rfl, hn2⟩
  · have hd : decide ((k : Int) < (g.length : Int)) = false := by simp; omega
    rw [List.take_of_length_le (by omega)] at hno
    rw [decide_eq_false hno] at hK
    refine gq2 (zo hlen (zo hd hb)) ?_
    refine zam hl ?_
    exact hK
theorem c_rgSign {σ : List zb} {id : Nat} {g : List zO} {k d : Int} (hG : σ[id]? = some (rlO g)) (hgl : g.length ≤ 1073741824) {K : AV → List zb → Prop}
    (hK : K (.tup [zly (signR k d), .d (.int .i64 (zdm k d))]) (σ.set id (rlO (zeP g k d)))) : zn Tryz.prog zcA [.box id 0, .d (.int .i64 k), .d (.int .i64 d)] σ K := by
  refine acall_ofW zfO.is rfl fun hl _ => zfO.goes ?_
  have hb : ∀ τ, (σ ++ τ)[id]? = some (.box [.d (.slice (ziS g))]) := fun τ => zk hG
  have hlen : (ziS g).length = g.length := List.length_map ..
  have bad : zdm k d ≠ 0 → K (.tup [.agg [.d (.int .i64 0), .d (.int .i64 0)], .d (.int .i64 (zdm k d))]) σ := fun h => by
    rw [signR, zeP, if_neg h, if_neg h, zbH hG] at hK
    exact hK
  simp only [zfX, iN, bT, bF, eN]
  refine gq1 ?_
  cases h1 : decide (k < 0)
  · cases h2 : decide (k ≥ 21)
    · have hk : ¬ (k < 0 ∨ k ≥ 21) := by simp at h1 h2; omega
      cases h3 : decide (d < 1)
      · have he : zdm k d = 0 := by rw [zdm, if_neg hk, if_neg (by simpa using h3)]
        rw [he, signR, zeP, if_pos he, if_pos he] at hK
        refine gq2 (zo h1 (zo h2 h3)) ?_
        refine c_rgSigned (s := ⟨k, d⟩) (zk hG) hgl ?_
        by_cases hs : (⟨k, d⟩ : zO) ∈ g
        · rw [decide_eq_true hs]
          rw [zmK, if_pos hs, zbH hG] at hK
          refine gq2 hb ?_
          refine zhH ?_
          refine zam hl ?_
          exact hK
        · rw [decide_eq_false hs]
          rw [zmK, if_neg hs] at hK
          have s1 : ∀ X τ, (σ ++ τ).set id X = σ.set id X ++ τ := fun X τ => zbR hG
          have L1 : ∀ X : zb, σ.length = (σ.set id X).length := fun X => by simp
          have e1 : ∀ X τ n, (σ.set id X ++ τ)[σ.length + n]? = τ[n]? := fun X τ n => by rw [L1 X]; exact zg ..
          have e3 : ∀ X τ W, (σ.set id X ++ τ).set σ.length W = σ.set id X ++ τ.set 0 W := fun X τ W => by rw [L1 X]; exact zC ..
          have e4 : ∀ X τ, (σ.set id X ++ τ)[σ.length]? = τ[0]? := fun X τ => by rw [L1 X]; exact zp ..
          refine gq2 (zo hb (zo hlen (zo s1 (zo e1 (zo e3 e4))))) ?_
          have e : ziS g ++ [[D.int .i64 k, D.int .i64 d]] = ziS (g ++ [⟨k, d⟩]) := by simp [ziS, zaL, zgb]
          refine ⟨zog (f := zgb) (fun _ => rfl) g, by simp, by omega, by simp, by omega, ?_⟩
          rw [e]
          exact znw hG (by simp [zfj, dmT, dm, dm1, zcm, zdS, zfA]) hl hK
      · have he : zdm k d = 1 := by rw [zdm, if_neg hk, if_pos (by simpa using h3)]
        have := bad (by rw [he]; decide)
        rw [he] at this
        refine gq2 (zo h1 (zo h2 h3)) ?_
        refine zhH ?_
        refine zam hl ?_
        exact this
    · have he : zdm k d = 20 := by rw [zdm, if_pos (by simp at h2; omega)]
      have := bad (by rw [he]; decide)
      rw [he] at this
      refine gq2 (zo h1 h2) ?_
      refine zhH ?_
      refine zam hl ?_
      exact this
  · have he : zdm k d = 20 := by rw [zdm, if_pos (by simp at h1; omega)]
    have := bad (by rw [he]; decide)
    rw [he] at this
    refine gq2 h1 ?_
    refine zhH ?_
    refine zam hl ?_
    exact this
end Go.Proofs.YtjjchfbckfopkaaGreat
