/- Contracts: sets of brokers, the document's, to the last bit. -/
import Derived.Test.YtcappjcojggehaaGreatQu1
import Derived.Test.YtcappjcojggehaaGreatSpSet
import Derived.Test.YtcappjcojggehaaGreatSpVote
set_option linter.all false
set_option maxRecDepth 100000
set_option linter.unusedSimpArgs false
set_option linter.unusedVariables false
namespace Go.Proofs.YtcappjcojggehaaGreat
open Go.AW

theorem wk13 (k : Nat) (h : k ≤ 1073741824) : IntKind.i64.wrap ((k : Int) + 1) = ((k + 1 : Nat) : Int) := by rw [zaj (by omega) (by omega)]; rfl
theorem zmH {A P Q : Prop} (a : A) (h : Q) (e : A → P = Q := by intro a; simp -dsimp only [↓zcI, ↓zai, ↓zaH, ↓zcJ, ↓zcE, ↓zcC, ↓zcF, ↓zcD, ↓zaM, ↓zaI, ↓zaN, ↓zaJ, ↓zcG, ↓zaG, ↓zaO, ↓zaK, ↓zaP, ↓zaL, ↓zcB, ↓zcH, ↓zaF, ↓zaQ, ↓zcy, ↓zcx, ↓zcA, iN, bT, bF, eN, ↓zbL, ↓unC, ↓zH, ↓zw, ↓zx, ↓zB, ↓zK, ↓zaz, ↓zbv, ↓zY, ↓zbh, ↓zP, ↓zr, ↓zp, ↓zbj, ↓zf, ↓zU, ↓zF, ↓zan, ↓zas, ↓zc, ↓zC, ↓zj, ↓zl, ↓zab, ↓zbK, ↓zbJ, ↓zae, ↓zah, ↓zam, ↓zav, ↓zaB, ↓zg, ↓zW, ↓zy, ↓zi, ↓zJ, zbM, zaE, zaD, unA, zbQ, bnd, zcb, zQ, zag, zcd, dm, dm1, zM, zao, zcr, zcq, zS, Q0, Q1, Q2, Q3, Q4, Q5, zG, zh, zn, zq, zt, Q6, Q7, Q8, Q9, Q10, Q11, Q12, Q13, Q14, Nat.reduceAdd, Q15, Int.reduceToNat, Q16, Q17, Q18, Q19, Q20, reduceIte, Q21, Q22, zm, rep, zL, zcz, toD, zac, Q23, Q24, Q25, Q26, Q27, Q28, Nat.reduceLeDiff, Q29, Nat.reduceSub, Q30, Q31, Q32, sc, Q33, Q34, Q35, Q36, Q37, Q26, Q38, Q39, zfa, zeX, zeU, zfb, zbC, zeY, zeV, zeZ, zeW, zbB, zbD, zfd, zfe, Bool.not_true, Bool.not_false, List.length_map, a]; rfl) : P := (e a).mpr h
theorem c_rIn {σ : List zb} {s : Nat} {b : Int} (hs : s < 65536) {K : AV → List zb → Prop} (hK : K (.d (.bool (inF s b))) σ) : zN Tryz.prog zfF [.d (.int .u16 s), .d (.int .i64 b)] σ K := by
  refine zk e_r12_Has.is rfl fun hl _ => e_r12_Has.goes ?_
  have fin : ∀ z : Bool, inF s b = z → K (.d (.bool z)) σ := fun z hz => by rw [← hz]; exact hK
  clear hK
  simp only [S_r12_Has, iN, bT, bF, eN]
  refine zV 13 (fun k vs q => q = σ ∧ vs = [.d (.int .u16 (s / 2 ^ k : Nat)), .d (.int .i64 k)] ∧ ¬ (0 ≤ b ∧ b < k ∧ s / 2 ^ b.toNat % 2 = 1)) ⟨rfl, by simp, by omega⟩ ?_
  rintro k vs q hk ⟨rfl, rfl, hno⟩
  have hle : s / 2 ^ k ≤ s := Nat.div_le_self _ _
  have hz1 : s / 2 ^ (k + 1) = s / 2 ^ k / 2 := by rw [Nat.pow_succ, ← Nat.div_div_eq_div_mul]
  have hbit : b = (k : Int) → s / 2 ^ b.toNat = s / 2 ^ k := fun h => by rw [h]; rfl
  obtain ⟨z, hz⟩ : ∃ z, s / 2 ^ k = z := ⟨_, rfl⟩
  rw [hz] at hle hz1 hbit ⊢
  by_cases hlt : k < 13
  · have hd : decide ((k : Int) < 13) = true := by simp; omega
    have hw := wk13 k (by omega)
    have hrem : (z : Int).tmod 2 = ((z % 2 : Nat) : Int) := by rw [Int.tmod_eq_emod_of_nonneg (by omega)]; rfl
    have hquo : IntKind.u16.wrap ((z : Int).tdiv 2) = ((z / 2 : Nat) : Int) := by
      rw [Int.tdiv_eq_ediv_of_nonneg (by omega), show (z : Int) / 2 = ((z / 2 : Nat) : Int) from rfl]
      simp [IntKind.wrap, IntKind.bits, IntKind.signed]
      omega
    cases h1 : ((k : Int) == b)
    · (repeat' first | refine zmH (zhg hd (zhg h1 (zhg hrem (zhg hquo hw)))) ?_ | with_reducible first | exact ⟨⟩ | refine zA ?_ | fail)
      refine zaR.next hlt ⟨rfl, by rw [hz1], ?_⟩
      have : ¬ (k : Int) = b := by simpa using h1
      rintro ⟨g1, g2, g3⟩
      exact hno ⟨g1, by omega, g3⟩
    · have hb : (k : Int) = b := by simpa using h1
      have hbt : b.toNat = k := by omega
      cases h2 : (((z % 2 : Nat) : Int) == 1)
      · have h2' : ¬ z % 2 = 1 := by simp at h2; omega
        (repeat' first | refine zmH (zhg hd (zhg h1 (zhg h2 (zhg hrem (zhg hquo hw))))) ?_ | with_reducible first | exact ⟨⟩ | refine zA ?_ | fail)
        refine zaR.next hlt ⟨rfl, by rw [hz1], ?_⟩
        rintro ⟨g1, g2, g3⟩
        rw [hbit hb.symm] at g3
        exact h2' g3
      · have h2' : z % 2 = 1 := by simp at h2; omega
        (repeat' first | refine zmH (zhg hd (zhg h1 (zhg h2 (zhg hrem (zhg hquo hw))))) ?_ | with_reducible first | exact ⟨⟩ | refine zA ?_ | fail)
        (first | refine zar hl ?_ | refine zaq hl ?_)
        exact fin _ (decide_eq_true ⟨by omega, by omega, by rw [hbit hb.symm]; exact h2'⟩)
  · have hd : decide ((k : Int) < 13) = false := by simp; omega
    (repeat' first | refine zmH hd ?_ | with_reducible first | exact ⟨⟩ | refine zA ?_ | fail)
    (first | refine zar hl ?_ | refine zaq hl ?_)
    exact fin _ (decide_eq_false fun h => hno ⟨h.1, by omega, h.2.2⟩)
theorem c_rList {σ : List zb} {s : Nat} (hs : s < 65536) {K : AV → List zb → Prop} (hK : K (.d (.slice (zlJ (memF s)))) σ) : zN Tryz.prog zjK [.d (.int .u16 s)] σ K := by
  refine zk znp.is rfl fun hl _ => znp.goes ?_
  simp only [znL, iN, bT, bF, eN]
  refine zaW 13 (fun k vs q => vs = [.own σ.length (zlJ (memN s k)), .d (.int .i64 k)] ∧ q = σ ++ [.tok 1 (memN s k).length]) (.tok 0 [] 1 rfl (by simp) (.refl _ _)) ⟨rfl, rfl⟩ ?_
  rintro k vs q hk ⟨rfl, rfl⟩
  have hln := memN_len s k
  have hlm : (zlJ (memN s k)).length = (memN s k).length := List.length_map ..
  by_cases hlt : k < 13
  · have hd : decide ((k : Int) < 13) = true := by simp; omega
    have hw := wk13 k (by omega)
    (repeat' first | refine zmH hd ?_ | with_reducible first | exact ⟨⟩ | refine zA ?_ | fail)
    refine c_rIn hs ?_
    have hnx := memN_next s k
    cases h1 : inF s (k : Int)
    · rw [h1] at hnx
      simp only [Bool.false_eq_true, if_false, List.append_nil] at hnx
      (repeat' first | refine zmH hw ?_ | with_reducible first | exact ⟨⟩ | refine zA ?_ | fail)
      exact zaR.next hlt ⟨by rw [hnx], by rw [hnx]⟩
    · rw [h1, if_pos rfl] at hnx
      (repeat' first | refine zmH (zhg hw hlm) ?_ | with_reducible first | exact ⟨⟩ | refine zA ?_ | fail)
      exact zaR.next hlt ⟨by rw [hnx]; simp, by rw [hnx]; simp⟩
  · have hd : decide ((k : Int) < 13) = false := by simp; omega
    have hk13 : k = 13 := by omega
    subst hk13
    (repeat' first | refine zmH hd ?_ | with_reducible first | exact ⟨⟩ | refine zA ?_ | fail)
    (first | refine zar hl ?_ | refine zaq hl ?_)
    exact hK
theorem gq67 {P Q : Prop} (h : Q) (e : P = Q := by simp -dsimp only [↓zcI, ↓zai, ↓zaH, ↓zcJ, ↓zcE, ↓zcC, ↓zcF, ↓zcD, ↓zaM, ↓zaI, ↓zaN, ↓zaJ, ↓zcG, ↓zaG, ↓zaO, ↓zaK, ↓zaP, ↓zaL, ↓zcB, ↓zcH, ↓zaF, ↓zaQ, ↓zcy, ↓zcx, ↓zcA, iN, bT, bF, eN, ↓zbL, ↓unC, ↓zH, ↓zw, ↓zx, ↓zB, ↓zK, ↓zaz, ↓zbv, ↓zY, ↓zbh, ↓zP, ↓zr, ↓zp, ↓zbj, ↓zf, ↓zU, ↓zF, ↓zan, ↓zas, ↓zc, ↓zC, ↓zj, ↓zl, ↓zab, ↓zbK, ↓zbJ, ↓zae, ↓zah, ↓zam, ↓zav, ↓zaB, ↓zg, ↓zW, ↓zy, ↓zi, ↓zJ, zbM, zaE, zaD, unA, zbQ, bnd, zcb, zQ, zag, zcd, dm, dm1, zM, zao, zcr, zcq, zS, Q0, Q1, Q2, Q3, Q4, Q5, zG, zh, zn, zq, zt, Q6, Q7, Q8, Q9, Q10, Q11, Q12, Q13, Q14, Nat.reduceAdd, Q15, Int.reduceToNat, Q16, Q17, Q18, Q19, Q20, reduceIte, Q21, Q22, zm, rep, zL, zcz, toD, zac, Q23, Q24, Q25, Q26, Q27, Q28, Nat.reduceLeDiff, Q29, Nat.reduceSub, Q30, Q31, Q32, sc, Q33, Q34, Q35, Q36, Q37, Q26, Q38, Q39, zfa, zeX, zeU, zfb, zbC, zeY, zeV, zeZ, zeW, zbB, zbD, zfd, zfe, Bool.not_true, Bool.not_false, List.length_map]; rfl) : P := e.mpr h
theorem c_rMany {σ : List zb} {s : Nat} (hs : s < 65536) {K : AV → List zb → Prop} (hK : K (.d (.int .i64 (memF s).length)) σ) : zN Tryz.prog zjJ [.d (.int .u16 s)] σ K := by
  refine zk zno.is rfl fun hl _ => zno.goes ?_
  have hlm : (zlJ (memF s)).length = (memF s).length := List.length_map ..
  simp only [znK, iN, bT, bF, eN]
  (repeat' first | refine gq67 ?_ | with_reducible first | exact ⟨⟩ | refine zA ?_ | fail)
  refine c_rList hs ?_
  (repeat' first | refine zmH hlm ?_ | with_reducible first | exact ⟨⟩ | refine zA ?_ | fail)
  (first | refine zar hl ?_ | refine zaq hl ?_)
  exact hK
theorem wrap16u {x : Int} (h0 : 0 ≤ x) (h1 : x < 65536) : IntKind.u16.wrap x = x := by
  simp [IntKind.wrap, IntKind.bits, IntKind.signed]; omega
theorem c_rSetOf {σ : List zb} {l : List Int} (hl0 : l.length ≤ 1073741824) {K : AV → List zb → Prop} (hK : K (.d (.int .u16 (ofN l 13))) σ) : zN Tryz.prog zla [.d (.slice (zlJ l))] σ K := by
  refine zk e_r12_Of.is rfl fun hl _ => e_r12_Of.goes ?_
  have hlm : (zlJ l).length = l.length := List.length_map ..
  simp only [S_r12_Of, iN, bT, bF, eN]
  refine zV 13 (fun k vs q => vs = [.d (.int .u16 (ofN l k)), .d (.int .u16 ((2 ^ k : Nat) : Int)), .d (.int .i64 k)] ∧ q = σ) ⟨rfl, rfl⟩ ?_
  rintro k vs q hk ⟨rfl, rfl⟩
  have hlt2 := ofN_lt l k
  have hp : 2 ^ k ≤ 2 ^ 13 := Nat.pow_le_pow_right (by omega) hk
  have hnx : ofN l (k + 1) = ofN l k + if (k : Int) ∈ l then 2 ^ k else 0 := rfl
  have hpn : 2 ^ (k + 1) = 2 ^ k * 2 := Nat.pow_succ ..
  obtain ⟨P, hP⟩ : ∃ P, 2 ^ k = P := ⟨_, rfl⟩
  obtain ⟨Q, hQ⟩ : ∃ Q, ofN l k = Q := ⟨_, rfl⟩
  rw [hP] at hlt2 hp hnx hpn ⊢
  rw [hQ] at hlt2 hnx ⊢
  by_cases hlt : k < 13
  · have hd : decide ((k : Int) < 13) = true := by simp; omega
    have hw := wk13 k (by omega)
    have hm : IntKind.u16.wrap ((P : Int) * 2) = ((P * 2 : Nat) : Int) := by rw [wrap16u (by omega) (by omega)]; omega
    have ha : IntKind.u16.wrap ((Q : Int) + P) = ((Q + P : Nat) : Int) := by rw [wrap16u (by omega) (by omega)]; omega
    (repeat' first | refine zmH hd ?_ | with_reducible first | exact ⟨⟩ | refine zA ?_ | fail)
    refine zV l.length (fun j vs q2 => vs = [.d (.int .u16 Q), .d (.int .i64 j)] ∧ q2 = q ∧ (k : Int) ∉ l.take j) ⟨rfl, rfl, by simp⟩ ?_
    rintro j vs q hj ⟨rfl, rfl, hno⟩
    by_cases hjl : j < l.length
    · have hd2 : decide ((j : Int) < (l.length : Int)) = true := by simp; omega
      have hx : l[j]? = some l[j] := by simp [hjl]
      have hgx := zaT (f := fun t : Int => [D.int .i64 t]) hx
      obtain ⟨x, hxe⟩ : ∃ x, l[j] = x := ⟨_, rfl⟩
      rw [hxe] at hx hgx
      cases h1 : (x == (k : Int))
      · have hne : (k : Int) ≠ x := by simp at h1; omega
        (repeat' first | refine zmH (zhg hd2 (zhg hlm (zhg hgx (zhg h1 (wk13 j (by omega)))))) ?_ | with_reducible first | exact ⟨⟩ | refine zA ?_ | fail)
        refine zaR.next hjl ⟨rfl, rfl, ?_⟩
        rw [List.take_add_one, hx]
        simp [hno, hne]
      · have he : x = (k : Int) := by simpa using h1
        have hm2 : (k : Int) ∈ l := he ▸ List.mem_of_getElem? hx
        rw [if_pos hm2] at hnx
        (repeat' first | refine zmH (zhg hd2 (zhg hlm (zhg hgx (zhg h1 (zhg hw (zhg hm ha)))))) ?_ | with_reducible first | exact ⟨⟩ | refine zA ?_ | fail)
        exact zaR.next hlt ⟨by rw [hnx, hpn], rfl⟩
    · have hd2 : decide ((j : Int) < (l.length : Int)) = false := by simp; omega
      rw [List.take_of_length_le (by omega)] at hno
      rw [if_neg hno] at hnx
      rw [Nat.add_zero] at hnx
      (repeat' first | refine zmH (zhg hd2 (zhg hlm (zhg hw hm))) ?_ | with_reducible first | exact ⟨⟩ | refine zA ?_ | fail)
      exact zaR.next hlt ⟨by rw [hnx, hpn]; rfl, rfl⟩
  · have hd : decide ((k : Int) < 13) = false := by simp; omega
    have hk13 : k = 13 := by omega
    subst hk13
    rw [← hQ]
    (repeat' first | refine zmH hd ?_ | with_reducible first | exact ⟨⟩ | refine zA ?_ | fail)
    (first | refine zar hl ?_ | refine zaq hl ?_)
    exact hK
theorem times13 (f : Int) : 0 ≤ zcw 3 f ∧ zcw 3 f ≤ 13 := by
  unfold zcw; split <;> omega
theorem c_rAll {σ : List zb} {f : Int} {K : AV → List zb → Prop} (hK : K (.d (.int .u16 (allF (zcw 3 f).toNat))) σ) : zN Tryz.prog zlw [.d (.int .i64 f)] σ K := by
  refine zk e_r12_All.is rfl fun hl _ => e_r12_All.goes ?_
  have ht := times13 f
  obtain ⟨N, hN⟩ : ∃ N : Nat, (zcw 3 f).toNat = N := ⟨_, rfl⟩
  have hN2 : zcw 3 f = (N : Int) := by omega
  rw [hN] at hK
  simp only [S_r12_All, iN, bT, bF, eN]
  refine zaW N (fun k vs q => vs = [.own σ.length (zlJ (zdO k)), .d (.int .i64 k)] ∧ q = σ ++ [.tok 1 k]) (.tok 0 [] 1 rfl (by simp) (.refl _ _)) ⟨rfl, rfl⟩ ?_
  rintro k vs q hk ⟨rfl, rfl⟩
  have hlm : (zlJ (zdO k)).length = k := by simp [zdO]
  (repeat' first | refine gq67 ?_ | with_reducible first | exact ⟨⟩ | refine zA ?_ | fail)
  refine c_rBrokers ?_
  rw [hN2]
  by_cases hlt : k < N
  · have hd : decide ((k : Int) < (N : Int)) = true := by simp; omega
    (repeat' first | refine zmH (zhg hd (zhg (wk13 k (by omega)) hlm)) ?_ | with_reducible first | exact ⟨⟩ | refine zA ?_ | fail)
    exact zaR.next hlt ⟨by rw [zjB]; simp, rfl⟩
  · have hd : decide ((k : Int) < (N : Int)) = false := by simp; omega
    have hk2 : k = N := by omega
    subst hk2
    (repeat' first | refine zmH hd ?_ | with_reducible first | exact ⟨⟩ | refine zA ?_ | fail)
    refine c_rSetOf (by rw [List.length_map] at hlm; omega) ?_
    (repeat' first | refine gq67 ?_ | with_reducible first | exact ⟨⟩ | refine zA ?_ | fail)
    (first | refine zar hl ?_ | refine zaq hl ?_)
    exact hK
theorem c_rBoth {σ : List zb} {a b : Nat} (ha : a < 65536) (hb : b < 65536) {K : AV → List zb → Prop} (hK : K (.d (.int .u16 (zmL a b))) σ) : zN Tryz.prog zjL [.d (.int .u16 a), .d (.int .u16 b)] σ K := by
  refine zk znq.is rfl fun hl _ => znq.goes ?_
  simp only [znM, iN, bT, bF, eN]
  refine zaW 13 (fun k vs q => vs = [.own σ.length (zlJ (zmi a b k)), .d (.int .i64 k)] ∧ q = σ ++ [.tok 1 (zmi a b k).length]) (.tok 0 [] 1 rfl (by simp) (.refl _ _)) ⟨rfl, rfl⟩ ?_
  rintro k vs q hk ⟨rfl, rfl⟩
  have hln := bothL_len a b k
  have hlm : (zlJ (zmi a b k)).length = (zmi a b k).length := List.length_map ..
  by_cases hlt : k < 13
  · have hd : decide ((k : Int) < 13) = true := by simp; omega
    have hw := wk13 k (by omega)
    (repeat' first | refine zmH hd ?_ | with_reducible first | exact ⟨⟩ | refine zA ?_ | fail)
    refine c_rIn ha ?_
    have hnx := bothL_next a b k
    cases h1 : inF a (k : Int)
    · rw [h1] at hnx
      simp only [Bool.false_and, Bool.false_eq_true, if_false, List.append_nil] at hnx
      (repeat' first | refine zmH hw ?_ | with_reducible first | exact ⟨⟩ | refine zA ?_ | fail)
      exact zaR.next hlt ⟨by rw [hnx], by rw [hnx]⟩
    · rw [h1, Bool.true_and] at hnx
      (repeat' first | refine gq67 ?_ | with_reducible first | exact ⟨⟩ | refine zA ?_ | fail)
      refine c_rIn hb ?_
      cases h2 : inF b (k : Int)
      · rw [h2] at hnx
        simp only [Bool.false_eq_true, if_false, List.append_nil] at hnx
        (repeat' first | refine zmH hw ?_ | with_reducible first | exact ⟨⟩ | refine zA ?_ | fail)
        exact zaR.next hlt ⟨by rw [hnx], by rw [hnx]⟩
      · rw [h2, if_pos rfl] at hnx
        (repeat' first | refine zmH (zhg hw hlm) ?_ | with_reducible first | exact ⟨⟩ | refine zA ?_ | fail)
        exact zaR.next hlt ⟨by rw [hnx]; simp, by rw [hnx]; simp⟩
  · have hd : decide ((k : Int) < 13) = false := by simp; omega
    have hk13 : k = 13 := by omega
    subst hk13
    (repeat' first | refine zmH hd ?_ | with_reducible first | exact ⟨⟩ | refine zA ?_ | fail)
    refine c_rSetOf (by omega) ?_
    (repeat' first | refine gq67 ?_ | with_reducible first | exact ⟨⟩ | refine zA ?_ | fail)
    (first | refine zar hl ?_ | refine zaq hl ?_)
    exact hK
end Go.Proofs.YtcappjcojggehaaGreat
